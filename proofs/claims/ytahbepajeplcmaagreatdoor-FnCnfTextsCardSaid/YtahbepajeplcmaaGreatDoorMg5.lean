/- Lemmas and contracts for a law, put together out of several texts: TxF PlS NumS SpS LtA CxA BtA. -/
import Derived.Test.YtahbepajeplcmaaGreatDoorMg4
import Derived.Test.YtahbepajeplcmaaGreatDoorMg1
import Derived.Lib.IndexBytes
import Derived.Lib.IndexLaws
import Derived.Lib.IndexMore
import Derived.Lib.AtoiAll
import Derived.Lib.SplitLaws
import Derived.Lib.Join
import Derived.Lib.CountLaws
import Derived.Test.YtahbepajeplcmaaGreatDoorShelf
import Derived.Test.YtahbepajeplcmaaGreatDoorMg2
import Derived.Shelf.Strings.Builder1
/- Contract, a weak one: a Cnf with its variables renamed, in the reference. -/
namespace Go.Proofs.YtahbepajeplcmaaGreatDoor
open Go.RowKit

theorem clause_len {vars : Int} {c : List Int} (h : clauseB vars c = true) : c.length ≤ 12 := by
  have hp := clause_parts h
  exact rising_len (m := 12) (k := 1) (clause_rising h) (fun l hl => by have := hp.2.1 l hl; omega)

theorem absV_of (l : Int) (h : -13 ≤ l ∧ l ≤ 13) : absV l = (l.natAbs : Int) := by
  unfold absV negV
  split
  · rw [IntWalk.wrap64_in _ (by omega)]; omega
  · omega

set_option maxRecDepth 100000 in
set_option maxHeartbeats 4000000 in
theorem renameW_any (vars : Int) (v : Value) (xss : List (List Int)) (tl : List Int) (TA : Option Addr) (tc : Nat) (F G : List Nat) (w : World) (hx : (Ty.slice Ty.int).row false w v xss F) (hy : Ty.int.row false w (.slice TA tl.length tc) tl G) (hto : Within 13 tl) (hl : tl.length ≤ 1000) :
    Calls Tryz.prog 187 #[.agg #[.int .i64 vars, v], .slice TA tl.length tc] w (CnfW w) := by
  obtain ⟨FA, fc, rfl, hI⟩ := cls_row hx
  have S0 := ((Sp.start w).alloc_box #[.int .i64 vars, .slice FA xss.length fc] 61).alloc_box #[.int .i64 0, .slice none 0 0] 61
  simp only [World.size_alloc] at S0
  have hgood := Lib.hid (l2Good_any vars _ xss F _ (Ty.row_below hx S0.below (Ty.row_lt hx)))
  have c0 := S0.cell (i := 1) rfl (o := 0) rfl
  have c1 := S0.cell (i := 1) rfl (o := 1) rfl
  replace S0 := Lib.hid S0
  cases h1 : goodB vars xss
  · rw [h1] at hgood
    go_enter Tryz.func187, Tryz.ntmps187
    go_wp2_with fail
    refine hgood.out.mono ?_
    rintro e w1 ⟨rfl, hb1⟩
    have S1 := Lib.hid (S0.out.grow hb1)
    clear S0 hgood hb1 c0 c1 hx hI
    have r0 := S1.out.cell (i := 0) rfl (o := 0) rfl
    have r1 := S1.out.cell (i := 0) rfl (o := 1) rfl
    have f0 := S1.out.frozen (i := 0) rfl 0
    have f1 := S1.out.frozen (i := 0) rfl 1
    have SF := (S1.out.store (i := 0) rfl 0 (.int .i64 0)).store (i := 0) rfl 1 (.slice none 0 0)
    have j0 := SF.cell (i := 0) rfl (o := 0) rfl
    have j1 := SF.cell (i := 0) rfl (o := 1) rfl
    have hB := Lib.hid SF.below
    clear SF
    go_wp2_with fail
    exact bodyPost_ret (v := .tuple #[.agg #[.int .i64 0, .slice none 0 0], .bool false]) (by simp [results, Tryz.results187, go_sem, j0, j1]) rfl (cnfW_no hB.out)
  have hg := good_cnf h1
  rw [h1] at hgood
  obtain ⟨n, rfl⟩ := Int.eq_ofNat_of_zero_le hg.1.1
  by_cases hln : tl.length = n
  case neg =>
    have hne : ((tl.length : Int) != (n : Int)) = true := by rw [bne_iff_ne]; omega
    go_enter Tryz.func187, Tryz.ntmps187
    go_wp2_with fail
    refine hgood.out.mono ?_
    rintro e w1 ⟨rfl, hb1⟩
    have S1 := Lib.hid (S0.out.grow hb1)
    have d0 := S1.out.cell (i := 1) rfl (o := 0) rfl
    clear S0 hgood hb1 c0 c1 hx hI hg
    have r0 := S1.out.cell (i := 0) rfl (o := 0) rfl
    have r1 := S1.out.cell (i := 0) rfl (o := 1) rfl
    have f0 := S1.out.frozen (i := 0) rfl 0
    have f1 := S1.out.frozen (i := 0) rfl 1
    have SF := (S1.out.store (i := 0) rfl 0 (.int .i64 0)).store (i := 0) rfl 1 (.slice none 0 0)
    have j0 := SF.cell (i := 0) rfl (o := 0) rfl
    have j1 := SF.cell (i := 0) rfl (o := 1) rfl
    have hB := Lib.hid SF.below
    clear SF
    go_wp2_with fail
    exact bodyPost_ret (v := .tuple #[.agg #[.int .i64 0, .slice none 0 0], .bool false]) (by simp [results, Tryz.results187, go_sem, j0, j1]) rfl (cnfW_no hB.out)
  case pos =>
  have hne : ((tl.length : Int) != (n : Int)) = false := by rw [bne_eq_false_iff_eq]; omega
  have hn12 : n ≤ 12 := by omega
  replace hln := Lib.hid hln
  replace hI := Lib.hid hI
  have hyH := Lib.hid hy
  obtain ⟨TA', tc', e', hT⟩ := ints_row hy
  cases e'
  replace hT := Lib.hid hT
  replace hto := Lib.hid hto
  have hgH := Lib.hid hg
  obtain ⟨i0, hi, hz0, hz1, hz2⟩ := info_parts infoRow
  obtain ⟨t0, ti, tz0, tz1, tz2⟩ := info_parts infoInt
  have hcap : tl.length ≤ tc := by
    obtain ⟨a, cap, e, h, _⟩ := row_int hy
    simp only [Value.slice.injEq] at e
    omega
  clear hx hy hg
  go_enter Tryz.func187, Tryz.ntmps187
  go_wp2_with fail
  refine hgood.out.mono ?_
  rintro e w1 ⟨rfl, hb1⟩
  have S1 : Hid (Sp w w1 [Box (w.heap.size + 1) 61 #[.int .i64 0, .slice none 0 0], Box w.heap.size 61 #[.int .i64 n, .slice FA xss.length fc]]) := S0.out.grow hb1
  have d0 := S1.out.cell (i := 1) rfl (o := 0) rfl
  clear S0 hgood hb1 c0 c1
  go_wp2_with fail
  go_loopw [6] (fun vi wr => ∃ k : Nat, k ≤ tl.length ∧ vi = .int .i64 k ∧ Hid (Sp w wr [Box (w.heap.size + 1) 61 #[.int .i64 0, .slice none 0 0], Box w.heap.size 61 #[.int .i64 n, .slice FA xss.length fc]])) (fun vi _ => tl.length - (intOf vi).toNat)
  case atStart => exact ⟨0, Nat.zero_le _, rfl, S1⟩
  case round =>
    obtain ⟨k, hk, rfl, HS⟩ := hrel
    clear S1 d0
    by_cases hlt : k < tl.length
    · obtain ⟨b, off, rfl, m0⟩ := (hT.out.grow HS.out.below).at_ k hlt
      have d0 := HS.out.cell (i := 1) rfl (o := 0) rfl
      obtain ⟨G', hG, _⟩ := row_int_take (Ty.row_below hyH.out HS.out.below (Ty.row_lt hyH.out)) hk
      have hlk : (tl.take k).length = k := by rw [List.length_take]; omega
      have hx13 := hto.out _ (List.getElem_mem hlt)
      have hneg : IntKind.i64.wrap (-tl[k]) = -tl[k] := IntWalk.i64_in _ (by omega)
      generalize tl[k] = x at *
      have hlit := Lib.hid (fun W => l2Lit_any (n : Int) x W)
      have hh1 := Lib.hid (l2Has_any (.slice (some ⟨b, off, none⟩) k tc) (tl.take k) G' x)
      have hh2 := Lib.hid (l2Has_any (.slice (some ⟨b, off, none⟩) k tc) (tl.take k) G' (-x))
      have hGH := Lib.hid (fun W (h : Below wr.heap.size wr W) => Ty.row_below hG h (Ty.row_lt hG))
      generalize litB (n : Int) x = q0 at *
      generalize hasI (tl.take k) x = q1 at *
      generalize hasI (tl.take k) (-x) = q2 at *
      clear hG hlk
      go_upto_region 6 with fail
      go_cut [58] (fun v wx => ∃ q : Bool, v = .bool q ∧ Hid (Sp w wx [Box (w.heap.size + 1) 61 #[.int .i64 0, .slice none 0 0], Box w.heap.size 61 #[.int .i64 n, .slice FA xss.length fc]]))
      case first =>
        as_aux_lemma =>
        refine wp_region_held_lit (S := (fun w' => w'.cell? ⟨w.heap.size, 0, none⟩ = some (.int .i64 n) ∧ w'.cell? ⟨b, off + k, none⟩ = some (.int .i64 x))) 29 [false, false, false, false, false, false, false, false, false, false, false, false, false, false, false, false, false, false, false, false, false, false, false, false, false, false, false, false, false] (by kernel_rfl) (by kernel_rfl) (by kernel_rfl) ?_ ?_
        · exact ⟨d0, m0⟩
        intro hS
        (refine wpAnyH_take (i := 0) (v := ?_) rfl (by kernel_rfl) (by kernel_rfl) (by kernel_rfl) (fun _ _ _ h => h) (Or.inl ⟨by rfl, ?_⟩) (by assumption) ?_; rotate_left; (focus (intro w hSw; (try dsimp only at hSw); go_simp; (try with_reducible rfl); done)); (try simp only [put_rules]))
        (refine wpAnyH_take (i := 1) (v := ?_) rfl (by kernel_rfl) (by kernel_rfl) (by kernel_rfl) (fun _ _ _ h => h) (Or.inl ⟨by rfl, ?_⟩) (by assumption) ?_; rotate_left; (focus (intro w hSw; (try dsimp only at hSw); go_simp; (try with_reducible rfl); done)); (try simp only [put_rules]))
        (refine wpAnyH_take (i := 2) (v := ?_) rfl (by kernel_rfl) (by kernel_rfl) (by kernel_rfl) (fun _ _ _ h => h) (Or.inl ⟨by rfl, ?_⟩) (by assumption) ?_; rotate_left; (focus (intro w hSw; (try dsimp only at hSw); go_simp; (try with_reducible rfl); done)); (try simp only [put_rules]))
        (refine wpAnyH_take (i := 3) (v := ?_) rfl (by kernel_rfl) (by kernel_rfl) (by kernel_rfl) (fun _ _ _ h => h) (Or.inl ⟨by rfl, ?_⟩) (by assumption) ?_; rotate_left; (focus (intro w hSw; (try dsimp only at hSw); go_simp; (try with_reducible rfl); done)); (try simp only [put_rules]))
        (refine wpAnyH_take (i := 4) (v := ?_) rfl (by kernel_rfl) (by kernel_rfl) (by kernel_rfl) (fun _ _ _ h => h) (Or.inl ⟨by rfl, ?_⟩) (by assumption) ?_; rotate_left; (focus (intro w hSw; (try dsimp only at hSw); go_simp; (try with_reducible rfl); done)); (try simp only [put_rules]))
        (refine wpAnyH_take (i := 5) (v := ?_) rfl (by kernel_rfl) (by kernel_rfl) (by kernel_rfl) (fun _ _ _ h => h) (Or.inl ⟨by rfl, ?_⟩) (by assumption) ?_; rotate_left; (focus (intro w hSw; (try dsimp only at hSw); go_simp; (try with_reducible rfl); done)); (try simp only [put_rules]))
        (refine wpAnyH_ready (rs := [6]) (by kernel_rfl) (by simp) ?_; refine AllReadyH.cons rfl (fun K hK => ?_) AllReadyH.nil)
        go_simp
        go_at_call 80
        refine (hlit.out _).mono ?_
        rintro e w3 ⟨rfl, rfl⟩
        go_wp2_with fail
        refine hK.out _ _ hS (fun hS2 => ?_)
        clear hK
        (try simp only [put_rules])
        (refine wpAnyH_take (i := 7) (v := ?_) rfl (by kernel_rfl) (by kernel_rfl) (by kernel_rfl) (fun _ _ _ h => h) (Or.inl ⟨by rfl, ?_⟩) (by assumption) ?_; rotate_left; (focus (intro w hSw; (try dsimp only at hSw); go_simp; (try with_reducible rfl); done)); (try simp only [put_rules]))
        (refine wpAnyH_take (i := 8) (v := ?_) rfl (by kernel_rfl) (by kernel_rfl) (by kernel_rfl) (fun _ _ _ h => h) (Or.inl ⟨by rfl, ?_⟩) (by assumption) ?_; rotate_left; (focus (intro w hSw; (try dsimp only at hSw); go_simp; (try with_reducible rfl); done)); (try simp only [put_rules]))
        cases q0
        · (refine wpAnyH_take (i := 9) (v := undef) rfl (by kernel_rfl) (by kernel_rfl) (by kernel_rfl) (fun _ _ _ h => h) (Or.inr ⟨by rfl, rfl⟩) (by assumption) ?_; (try simp only [put_rules]))
          (refine wpAnyH_take (i := 10) (v := undef) rfl (by kernel_rfl) (by kernel_rfl) (by kernel_rfl) (fun _ _ _ h => h) (Or.inr ⟨by rfl, rfl⟩) (by assumption) ?_; (try simp only [put_rules]))
          (refine wpAnyH_take (i := 11) (v := undef) rfl (by kernel_rfl) (by kernel_rfl) (by kernel_rfl) (fun _ _ _ h => h) (Or.inr ⟨by rfl, rfl⟩) (by assumption) ?_; (try simp only [put_rules]))
          (refine wpAnyH_take (i := 12) (v := undef) rfl (by kernel_rfl) (by kernel_rfl) (by kernel_rfl) (fun _ _ _ h => h) (Or.inr ⟨by rfl, rfl⟩) (by assumption) ?_; (try simp only [put_rules]))
          (refine wpAnyH_take (i := 13) (v := undef) rfl (by kernel_rfl) (by kernel_rfl) (by kernel_rfl) (fun _ _ _ h => h) (Or.inr ⟨by rfl, rfl⟩) (by assumption) ?_; (try simp only [put_rules]))
          (refine wpAnyH_take (i := 14) (v := undef) rfl (by kernel_rfl) (by kernel_rfl) (by kernel_rfl) (fun _ _ _ h => h) (Or.inr ⟨by rfl, rfl⟩) (by assumption) ?_; (try simp only [put_rules]))
          (refine wpAnyH_take (i := 15) (v := undef) rfl (by kernel_rfl) (by kernel_rfl) (by kernel_rfl) (fun _ _ _ h => h) (Or.inr ⟨by rfl, rfl⟩) (by assumption) ?_; (try simp only [put_rules]))
          (refine wpAnyH_take (i := 16) (v := undef) rfl (by kernel_rfl) (by kernel_rfl) (by kernel_rfl) (fun _ _ _ h => h) (Or.inr ⟨by rfl, rfl⟩) (by assumption) ?_; (try simp only [put_rules]))
          (refine wpAnyH_take (i := 17) (v := ?_) rfl (by kernel_rfl) (by kernel_rfl) (by kernel_rfl) (fun _ _ _ h => h) (Or.inl ⟨by rfl, ?_⟩) (by assumption) ?_; rotate_left; (focus (intro w hSw; (try dsimp only at hSw); go_simp; (try with_reducible rfl); done)); (try simp only [put_rules]))
          (refine wpAnyH_take (i := 18) (v := ?_) rfl (by kernel_rfl) (by kernel_rfl) (by kernel_rfl) (fun _ _ _ h => h) (Or.inl ⟨by rfl, ?_⟩) (by assumption) ?_; rotate_left; (focus (intro w hSw; (try dsimp only at hSw); go_simp; (try with_reducible rfl); done)); (try simp only [put_rules]))
          (refine wpAnyH_take (i := 19) (v := undef) rfl (by kernel_rfl) (by kernel_rfl) (by kernel_rfl) (fun _ _ _ h => h) (Or.inr ⟨by rfl, rfl⟩) (by assumption) ?_; (try simp only [put_rules]))
          (refine wpAnyH_take (i := 20) (v := undef) rfl (by kernel_rfl) (by kernel_rfl) (by kernel_rfl) (fun _ _ _ h => h) (Or.inr ⟨by rfl, rfl⟩) (by assumption) ?_; (try simp only [put_rules]))
          (refine wpAnyH_take (i := 21) (v := undef) rfl (by kernel_rfl) (by kernel_rfl) (by kernel_rfl) (fun _ _ _ h => h) (Or.inr ⟨by rfl, rfl⟩) (by assumption) ?_; (try simp only [put_rules]))
          (refine wpAnyH_take (i := 22) (v := undef) rfl (by kernel_rfl) (by kernel_rfl) (by kernel_rfl) (fun _ _ _ h => h) (Or.inr ⟨by rfl, rfl⟩) (by assumption) ?_; (try simp only [put_rules]))
          (refine wpAnyH_take (i := 23) (v := undef) rfl (by kernel_rfl) (by kernel_rfl) (by kernel_rfl) (fun _ _ _ h => h) (Or.inr ⟨by rfl, rfl⟩) (by assumption) ?_; (try simp only [put_rules]))
          (refine wpAnyH_take (i := 24) (v := undef) rfl (by kernel_rfl) (by kernel_rfl) (by kernel_rfl) (fun _ _ _ h => h) (Or.inr ⟨by rfl, rfl⟩) (by assumption) ?_; (try simp only [put_rules]))
          (refine wpAnyH_take (i := 25) (v := undef) rfl (by kernel_rfl) (by kernel_rfl) (by kernel_rfl) (fun _ _ _ h => h) (Or.inr ⟨by rfl, rfl⟩) (by assumption) ?_; (try simp only [put_rules]))
          (refine wpAnyH_take (i := 26) (v := undef) rfl (by kernel_rfl) (by kernel_rfl) (by kernel_rfl) (fun _ _ _ h => h) (Or.inr ⟨by rfl, rfl⟩) (by assumption) ?_; (try simp only [put_rules]))
          (refine wpAnyH_take (i := 27) (v := undef) rfl (by kernel_rfl) (by kernel_rfl) (by kernel_rfl) (fun _ _ _ h => h) (Or.inr ⟨by rfl, rfl⟩) (by assumption) ?_; (try simp only [put_rules]))
          (refine wpAnyH_take (i := 28) (v := ?_) rfl (by kernel_rfl) (by kernel_rfl) (by kernel_rfl) (fun _ _ _ h => h) (Or.inl ⟨by rfl, ?_⟩) (by assumption) ?_; rotate_left; (focus (intro w hSw; (try dsimp only at hSw); go_simp; (try with_reducible rfl); done)); (try simp only [put_rules]))
          (refine wpAnyH_done (by kernel_rfl) ?_ _)
          go_wp2_with fail
          go_meet
          exact ⟨_, rfl, HS.out.drew⟩
        · (refine wpAnyH_take (i := 9) (v := ?_) rfl (by kernel_rfl) (by kernel_rfl) (by kernel_rfl) (fun _ _ _ h => h) (Or.inl ⟨by rfl, ?_⟩) (by assumption) ?_; rotate_left; (focus (intro w hSw; (try dsimp only at hSw); go_simp; (try with_reducible rfl); done)); (try simp only [put_rules]))
          (refine wpAnyH_take (i := 10) (v := ?_) rfl (by kernel_rfl) (by kernel_rfl) (by kernel_rfl) (fun _ _ _ h => h) (Or.inl ⟨by rfl, ?_⟩) (by assumption) ?_; rotate_left; (focus (intro w hSw; (try dsimp only at hSw); go_simp; (try with_reducible rfl); done)); (try simp only [put_rules]))
          (refine wpAnyH_take (i := 11) (v := .slice _ k tc) rfl (by kernel_rfl) (by kernel_rfl) (by kernel_rfl) (fun _ _ _ h => h) (Or.inl ⟨by rfl, fun _ _ => exec_slice_to rfl rfl rfl Tryz.underlying43 ti (by omega)⟩) (by assumption) ?_; (try simp only [put_rules]))
          (refine wpAnyH_take (i := 12) (v := ?_) rfl (by kernel_rfl) (by kernel_rfl) (by kernel_rfl) (fun _ _ _ h => h) (Or.inl ⟨by rfl, ?_⟩) (by assumption) ?_; rotate_left; (focus (intro w hSw; (try dsimp only at hSw); go_simp; (try with_reducible rfl); done)); (try simp only [put_rules]))
          (refine wpAnyH_take (i := 13) (v := ?_) rfl (by kernel_rfl) (by kernel_rfl) (by kernel_rfl) (fun _ _ _ h => h) (Or.inl ⟨by rfl, ?_⟩) (by assumption) ?_; rotate_left; (focus (intro w hSw; (try dsimp only at hSw); go_simp; (try with_reducible rfl); done)); (try simp only [put_rules]))
          (refine wpAnyH_take (i := 14) (v := ?_) rfl (by kernel_rfl) (by kernel_rfl) (by kernel_rfl) (fun _ _ _ h => h) (Or.inl ⟨by rfl, ?_⟩) (by assumption) ?_; rotate_left; (focus (intro w hSw; (try dsimp only at hSw); go_simp; (try with_reducible rfl); done)); (try simp only [put_rules]))
          (refine wpAnyH_take (i := 15) (v := ?_) rfl (by kernel_rfl) (by kernel_rfl) (by kernel_rfl) (fun _ _ _ h => h) (Or.inl ⟨by rfl, ?_⟩) (by assumption) ?_; rotate_left; (focus (intro w hSw; (try dsimp only at hSw); go_simp; (try with_reducible rfl); done)); (try simp only [put_rules]))
          (refine wpAnyH_ready (rs := [16]) (by kernel_rfl) (by simp) ?_; refine AllReadyH.cons rfl (fun K hK => ?_) AllReadyH.nil)
          go_simp
          go_at_call 146
          refine (hh1.out _ (hGH.out _ (bdr (bb _)))).mono ?_
          rintro e w3 ⟨rfl, rfl⟩
          go_wp2_with fail
          refine hK.out _ _ hS (fun hS3 => ?_)
          clear hK
          (try simp only [put_rules])
          cases q1
          · (refine wpAnyH_take (i := 17) (v := ?_) rfl (by kernel_rfl) (by kernel_rfl) (by kernel_rfl) (fun _ _ _ h => h) (Or.inl ⟨by rfl, ?_⟩) (by assumption) ?_; rotate_left; (focus (intro w hSw; (try dsimp only at hSw); go_simp; (try with_reducible rfl); done)); (try simp only [put_rules]))
            (refine wpAnyH_take (i := 18) (v := ?_) rfl (by kernel_rfl) (by kernel_rfl) (by kernel_rfl) (fun _ _ _ h => h) (Or.inl ⟨by rfl, ?_⟩) (by assumption) ?_; rotate_left; (focus (intro w hSw; (try dsimp only at hSw); go_simp; (try with_reducible rfl); done)); (try simp only [put_rules]))
            (refine wpAnyH_take (i := 19) (v := ?_) rfl (by kernel_rfl) (by kernel_rfl) (by kernel_rfl) (fun _ _ _ h => h) (Or.inl ⟨by rfl, ?_⟩) (by assumption) ?_; rotate_left; (focus (intro w hSw; (try dsimp only at hSw); go_simp; (try with_reducible rfl); done)); (try simp only [put_rules]))
            (refine wpAnyH_take (i := 20) (v := ?_) rfl (by kernel_rfl) (by kernel_rfl) (by kernel_rfl) (fun _ _ _ h => h) (Or.inl ⟨by rfl, ?_⟩) (by assumption) ?_; rotate_left; (focus (intro w hSw; (try dsimp only at hSw); go_simp; (try with_reducible rfl); done)); (try simp only [put_rules]))
            (refine wpAnyH_take (i := 21) (v := .slice _ k tc) rfl (by kernel_rfl) (by kernel_rfl) (by kernel_rfl) (fun _ _ _ h => h) (Or.inl ⟨by rfl, fun _ _ => exec_slice_to rfl rfl rfl Tryz.underlying43 ti (by omega)⟩) (by assumption) ?_; (try simp only [put_rules]))
            (refine wpAnyH_take (i := 22) (v := ?_) rfl (by kernel_rfl) (by kernel_rfl) (by kernel_rfl) (fun _ _ _ h => h) (Or.inl ⟨by rfl, ?_⟩) (by assumption) ?_; rotate_left; (focus (intro w hSw; (try dsimp only at hSw); go_simp; (try with_reducible rfl); done)); (try simp only [put_rules]))
            (refine wpAnyH_take (i := 23) (v := ?_) rfl (by kernel_rfl) (by kernel_rfl) (by kernel_rfl) (fun _ _ _ h => h) (Or.inl ⟨by rfl, ?_⟩) (by assumption) ?_; rotate_left; (focus (intro w hSw; (try dsimp only at hSw); go_simp; (try with_reducible rfl); done)); (try simp only [put_rules]))
            (refine wpAnyH_take (i := 24) (v := ?_) rfl (by kernel_rfl) (by kernel_rfl) (by kernel_rfl) (fun _ _ _ h => h) (Or.inl ⟨by rfl, ?_⟩) (by assumption) ?_; rotate_left; (focus (intro w hSw; (try dsimp only at hSw); go_simp; (try with_reducible rfl); done)); (try simp only [put_rules]))
            (refine wpAnyH_take (i := 25) (v := ?_) rfl (by kernel_rfl) (by kernel_rfl) (by kernel_rfl) (fun _ _ _ h => h) (Or.inl ⟨by rfl, ?_⟩) (by assumption) ?_; rotate_left; (focus (intro w hSw; (try dsimp only at hSw); go_simp; (try with_reducible rfl); done)); (try simp only [put_rules]))
            (refine wpAnyH_take (i := 26) (v := ?_) rfl (by kernel_rfl) (by kernel_rfl) (by kernel_rfl) (fun _ _ _ h => h) (Or.inl ⟨by rfl, ?_⟩) (by assumption) ?_; rotate_left; (focus (intro w hSw; (try dsimp only at hSw); go_simp; (try with_reducible rfl); done)); (try simp only [put_rules]))
            (refine wpAnyH_ready (rs := [27]) (by kernel_rfl) (by simp) ?_; refine AllReadyH.cons rfl (fun K hK => ?_) AllReadyH.nil)
            go_simp
            go_at_call 146
            refine (hh2.out _ (hGH.out _ (bdr (bb _)))).mono ?_
            rintro e w3 ⟨rfl, rfl⟩
            go_wp2_with fail
            refine hK.out _ _ hS (fun hS4 => ?_)
            clear hK
            (try simp only [put_rules])
            (refine wpAnyH_take (i := 28) (v := ?_) rfl (by kernel_rfl) (by kernel_rfl) (by kernel_rfl) (fun _ _ _ h => h) (Or.inl ⟨by rfl, ?_⟩) (by assumption) ?_; rotate_left; (focus (intro w hSw; (try dsimp only at hSw); go_simp; (try with_reducible rfl); done)); (try simp only [put_rules]))
            (refine wpAnyH_done (by kernel_rfl) ?_ _)
            go_wp2_with fail
            go_meet
            exact ⟨_, rfl, HS.out.drew⟩
          · (refine wpAnyH_take (i := 17) (v := ?_) rfl (by kernel_rfl) (by kernel_rfl) (by kernel_rfl) (fun _ _ _ h => h) (Or.inl ⟨by rfl, ?_⟩) (by assumption) ?_; rotate_left; (focus (intro w hSw; (try dsimp only at hSw); go_simp; (try with_reducible rfl); done)); (try simp only [put_rules]))
            (refine wpAnyH_take (i := 18) (v := ?_) rfl (by kernel_rfl) (by kernel_rfl) (by kernel_rfl) (fun _ _ _ h => h) (Or.inl ⟨by rfl, ?_⟩) (by assumption) ?_; rotate_left; (focus (intro w hSw; (try dsimp only at hSw); go_simp; (try with_reducible rfl); done)); (try simp only [put_rules]))
            (refine wpAnyH_take (i := 19) (v := undef) rfl (by kernel_rfl) (by kernel_rfl) (by kernel_rfl) (fun _ _ _ h => h) (Or.inr ⟨by rfl, rfl⟩) (by assumption) ?_; (try simp only [put_rules]))
            (refine wpAnyH_take (i := 20) (v := undef) rfl (by kernel_rfl) (by kernel_rfl) (by kernel_rfl) (fun _ _ _ h => h) (Or.inr ⟨by rfl, rfl⟩) (by assumption) ?_; (try simp only [put_rules]))
            (refine wpAnyH_take (i := 21) (v := undef) rfl (by kernel_rfl) (by kernel_rfl) (by kernel_rfl) (fun _ _ _ h => h) (Or.inr ⟨by rfl, rfl⟩) (by assumption) ?_; (try simp only [put_rules]))
            (refine wpAnyH_take (i := 22) (v := undef) rfl (by kernel_rfl) (by kernel_rfl) (by kernel_rfl) (fun _ _ _ h => h) (Or.inr ⟨by rfl, rfl⟩) (by assumption) ?_; (try simp only [put_rules]))
            (refine wpAnyH_take (i := 23) (v := undef) rfl (by kernel_rfl) (by kernel_rfl) (by kernel_rfl) (fun _ _ _ h => h) (Or.inr ⟨by rfl, rfl⟩) (by assumption) ?_; (try simp only [put_rules]))
            (refine wpAnyH_take (i := 24) (v := undef) rfl (by kernel_rfl) (by kernel_rfl) (by kernel_rfl) (fun _ _ _ h => h) (Or.inr ⟨by rfl, rfl⟩) (by assumption) ?_; (try simp only [put_rules]))
            (refine wpAnyH_take (i := 25) (v := undef) rfl (by kernel_rfl) (by kernel_rfl) (by kernel_rfl) (fun _ _ _ h => h) (Or.inr ⟨by rfl, rfl⟩) (by assumption) ?_; (try simp only [put_rules]))
            (refine wpAnyH_take (i := 26) (v := undef) rfl (by kernel_rfl) (by kernel_rfl) (by kernel_rfl) (fun _ _ _ h => h) (Or.inr ⟨by rfl, rfl⟩) (by assumption) ?_; (try simp only [put_rules]))
            (refine wpAnyH_take (i := 27) (v := undef) rfl (by kernel_rfl) (by kernel_rfl) (by kernel_rfl) (fun _ _ _ h => h) (Or.inr ⟨by rfl, rfl⟩) (by assumption) ?_; (try simp only [put_rules]))
            (refine wpAnyH_take (i := 28) (v := ?_) rfl (by kernel_rfl) (by kernel_rfl) (by kernel_rfl) (fun _ _ _ h => h) (Or.inl ⟨by rfl, ?_⟩) (by assumption) ?_; rotate_left; (focus (intro w hSw; (try dsimp only at hSw); go_simp; (try with_reducible rfl); done)); (try simp only [put_rules]))
            (refine wpAnyH_done (by kernel_rfl) ?_ _)
            go_wp2_with fail
            go_meet
            exact ⟨_, rfl, HS.out.drew⟩
      case rest =>
      clear HS d0 m0 hlit hh1 hh2 hGH
      obtain ⟨q, rfl, HS⟩ := hcut
      cases q
      · go_wp2_with fail
        go_roundw
        case rel => exact ⟨k + 1, by omega, by go_num, HS⟩
        case measure => simp [intOf]; omega
      · have r0 := HS.out.cell (i := 0) rfl (o := 0) rfl
        have r1 := HS.out.cell (i := 0) rfl (o := 1) rfl
        have f0 := HS.out.frozen (i := 0) rfl 0
        have f1 := HS.out.frozen (i := 0) rfl 1
        have SF := (HS.out.store (i := 0) rfl 0 (.int .i64 0)).store (i := 0) rfl 1 (.slice none 0 0)
        have j0 := SF.cell (i := 0) rfl (o := 0) rfl
        have j1 := SF.cell (i := 0) rfl (o := 1) rfl
        have hB := Lib.hid SF.below
        clear SF
        go_wp2_with fail
        exact bodyPost_ret (v := .tuple #[.agg #[.int .i64 0, .slice none 0 0], .bool false]) (by simp [results, Tryz.results187, go_sem, j0, j1]) rfl (cnfW_no hB.out)
    · have hge : ¬ (k : Int) < (tl.length : Int) := by omega
      have d0 := HS.out.cell (i := 1) rfl (o := 0) rfl
      have S3 := (HS.out.rows_made Ty.int 43).alloc_box #[.int .i64 n, .slice (some ⟨wr.heap.size, 0, none⟩) 0 0] 61
      simp only [World.size_alloc] at S3
      obtain ⟨ob, hob⟩ : ∃ ob, wr.heap.size + 1 = ob := ⟨_, rfl⟩
      rw [hob] at S3
      have S4 : Hid (Sp w _ [Rows Ty.int 43 (.slice (some ⟨wr.heap.size, 0, none⟩) ([] : List (List Int)).length 0) [] ([] : List (List Int)), Box ob 61 #[.int .i64 n, .slice (some ⟨wr.heap.size, 0, none⟩) ([] : List (List Int)).length 0], Box (w.heap.size + 1) 61 #[.int .i64 0, .slice none 0 0], Box w.heap.size 61 #[.int .i64 n, .slice FA xss.length fc]]) := S3.swap
      clear HS S3
      go_wp2_with fail
      go_loopw [8, 9, 10, 11, 12] (fun vi _ _ _ _ wr => ∃ (ys : List (List Int)) (cs : List Value) (B : Option Addr) (cap : Nat) (k : Nat), k ≤ xss.length ∧ vi = .int .i64 k ∧ Hid (ys.length = k) ∧ Hid (SmallC ys) ∧ Hid (Sp w wr [Rows Ty.int 43 (.slice B ys.length cap) cs ys, Box ob 61 #[.int .i64 n, .slice B ys.length cap], Box (w.heap.size + 1) 61 #[.int .i64 0, .slice none 0 0], Box w.heap.size 61 #[.int .i64 n, .slice FA xss.length fc]])) (fun vi _ _ _ _ _ => xss.length - (intOf vi).toNat)
      case atStart => exact ⟨[], [], _, _, 0, Nat.zero_le _, rfl, rfl, (fun c hc => by simp at hc), S4⟩
      case round =>
        obtain ⟨ys, cs, B, cap, k, hk, rfl, hyl, HC, HS⟩ := hrel
        rename World => wo
        have hx60 := hgH.out.2.1
        clear S4
        have d1 := HS.out.cell (i := 3) rfl (o := 1) rfl
        by_cases hlt : k < xss.length
        · obtain ⟨b, off, Bc, cc, rfl, m0, hIc⟩ := (hI.out.grow HS.out.below).at_ k hlt
          have hcb := hgH.out.2.2.1 _ (List.getElem_mem hlt)
          have hcl := clause_len hcb
          have hpar := Lib.hid (clause_parts hcb).2.1
          generalize xss[k] = c at *
          replace hIc := Lib.hid hIc
          have m0H := Lib.hid m0
          have S5 := Lib.hid (HS.out.own_made 3 1)
          clear HS hcb m0
          go_wp2_with fail
          clear d1
          go_loopw [9, 10, 11, 12] (fun vc vk _ _ WR => ∃ (c2 : List Int) (B2 : Option Addr) (cap2 j : Nat), j ≤ c.length ∧ vk = .int .i64 j ∧ vc = .slice B2 c2.length cap2 ∧ Hid (c2.length ≤ j) ∧ Hid (Within 13 c2) ∧ Hid (Sp w WR (Own 3 1 (.slice B2 c2.length cap2) c2.length (c2.map (.int .i64)) :: [Rows Ty.int 43 (.slice B ys.length cap) cs ys, Box ob 61 #[.int .i64 n, .slice B ys.length cap], Box (w.heap.size + 1) 61 #[.int .i64 0, .slice none 0 0], Box w.heap.size 61 #[.int .i64 n, .slice (some ⟨b, off, none⟩) xss.length fc]])) ∧ Hid (Below wo.heap.size wo WR)) (fun _ vk _ _ _ => c.length - (intOf vk).toNat)
          case atStart => exact ⟨[], _, _, 0, Nat.zero_le _, rfl, rfl, Nat.le_refl _, (fun x hx => by simp at hx), S5, bal (bb _) _⟩
          case round =>
            obtain ⟨c2, B2, cap2, j, hj, rfl, rfl, hc2l, HW, HS2, HB⟩ := hrel
            clear S5
            have d1 := HS2.out.cell (i := 4) rfl (o := 1) rfl
            have m0 := ((bcell HB.out).1 _ _ (World.block_lt_of_cell? _ _ m0H.out)).trans m0H.out
            by_cases hlt2 : j < c.length
            · obtain ⟨b3, off3, rfl, m1⟩ := (hIc.out.grow HB.out).at_ j hlt2
              have hx := hpar.out _ (List.getElem_mem hlt2)
              generalize c[j] = x at *
              obtain ⟨p, hp⟩ : ∃ p : Nat, absV x - 1 = (p : Int) := ⟨x.natAbs - 1, by rw [absV_of x (by omega)]; omega⟩
              have hpn : p < tl.length := by rw [hln.out]; rw [absV_of x (by omega)] at hp; omega
              obtain ⟨b4, off4, rfl, m2⟩ := (hT.out.grow HS2.out.below).at_ p hpn
              have hy13 := hto.out _ (List.getElem_mem hpn)
              generalize tl[p] = y at *
              have hyn : IntKind.i64.wrap (-y) = -y := IntWalk.i64_in _ (by omega)
              have hpw : IntKind.i64.wrap (absV x - 1) = (p : Int) := by rw [hp]; exact IntWalk.i64_in _ (by omega)
              have hpl : (p : Int) < (tl.length : Int) := by omega
              have hlv := Lib.hid (fun W => l2Var_any x W)
              clear hp
              generalize absV x = av at *
              go_wp2_with fail
              refine (hlv.out _).mono ?_
              rintro e w3 ⟨rfl, rfl⟩
              clear hlv
              go_upto_if 97 with fail
              go_cut [12] (fun s wx => ∃ l : Int, s = .int .i64 l ∧ -13 ≤ l ∧ l ≤ 13 ∧ Hid (Sp w wx (Own 3 1 (.slice B2 c2.length cap2) c2.length (c2.map (.int .i64)) :: [Rows Ty.int 43 (.slice B ys.length cap) cs ys, Box ob 61 #[.int .i64 n, .slice B ys.length cap], Box (w.heap.size + 1) 61 #[.int .i64 0, .slice none 0 0], Box w.heap.size 61 #[.int .i64 n, .slice (some ⟨b, off, none⟩) xss.length fc]])) ∧ Hid (Below wo.heap.size wo wx))
              case first =>
                by_cases hx0 : x < 0
                · have dx : decide (x < 0) = true := decide_eq_true hx0
                  go_wp2_with fail
                  go_meet
                  exact ⟨-y, rfl, by omega, by omega, HS2, HB⟩
                · have dx : decide (x < 0) = false := decide_eq_false hx0
                  go_wp2_with fail
                  go_meet
                  exact ⟨y, rfl, by omega, by omega, HS2, HB⟩
              case rest =>
              clear HS2 HB m0 m1 m2 d1 hyn hpw hpl hx
              obtain ⟨l, rfl, hl0, hl1, HS2, HB⟩ := hcut
              obtain ⟨F5, hr5, _, _⟩ := own_row (HS2.out.own (i := 0) rfl) (HW.out.i64 (by decide))
              have hc2' := hc2l.out
              have hpu := Lib.hid (l2Put_any _ c2 l F5 _ (Ty.row_down hr5) (by omega))
              clear hr5
              go_wp2_with fail
              refine hpu.out.mono ?_
              rintro e w6 ⟨v6, rfl, ho6, hb6⟩
              have S6 := (HS2.out.own_new hb6 (owns_zero ho6) (owns_ge ho6)).swap.tail
              have HW6 := Lib.hid (within_put HW.out ⟨hl0, hl1⟩)
              have hl6 := put_len c2 l
              obtain ⟨B6, cap6, rfl⟩ := own_slice ho6
              have HB6 := Lib.hid (btr HB.out hb6)
              generalize putB c2 l = c6 at *
              have hc6 : Hid (c6.length ≤ j + 1) := by unfold Hid; omega
              replace S6 := Lib.hid S6
              clear HS2 HB hpu ho6 hb6 hl6 hc2l hc2' HW
              go_wp2_with fail
              go_roundw
              case rel => exact ⟨c6, B6, cap6, j + 1, by omega, by go_num, rfl, hc6, HW6, S6, HB6⟩
              case measure => simp [intOf]; omega
            · obtain rfl : j = c.length := by omega
              have hc13 : c2.length ≤ 13 := by have := hc2l.out; omega
              have hsm : Within 1000000 c2 := fun z hz => by have := HW.out z hz; omega
              have S5 := Lib.hid (HS2.out.own_to_row (HW.out.i64 (by decide)))
              clear HS2
              have l1 := S5.out.cell (i := 2) rfl (o := 1) rfl
              have hrows := Lib.hid ((S5.out.rows (i := 1) rfl).alloc (.cells #[.slice B2 c2.length cap2] 43))
              have hbl := (S5.out.box (i := 2) rfl).2.1
              have l1a := ((bcell (bal (bb wr) (.cells #[.slice B2 c2.length cap2] 43))).1 _ 1 hbl).trans l1
              have kB : (wr.alloc (.cells #[.slice B2 c2.length cap2] 43)).cell? ⟨wr.heap.size, 0, none⟩ = some (.slice B2 c2.length cap2) := cell_of_row _ _ _ _ _ _ (heap_alloc_new wr _)
              go_wp2_with (at_builtin; refine wpList_append_src rfl _ _ rfl Tryz.underlying59 hi hz0 hz1 hz2 rfl (by decide) _ ys.length _ rfl hrows.out _ 1 1 [.slice B2 c2.length cap2] rfl (Src.one kB) (by simp [Value.oneCell']) ?c3 ?c4 ?_)
              case c3 => have hyk := hyl.out; have := hgH.out.2.1; unfold maxLen; omega
              case c4 => have hyk := hyl.out; have := hgH.out.2.1; omega
              intro vY wY hownY hgY hatY
              have S6 := S5.out.rows_push (bal (bb _) _) hownY hgY (by simpa using hatY)
              obtain ⟨aY, cY, rfl⟩ := own_slice hownY
              have b1 := S6.cell (i := 1) rfl (o := 1) rfl
              have q1 := S6.frozen (i := 1) rfl 1
              have hlen : ys.length + 1 = (ys ++ [c2]).length := by simp
              have S7 : Hid (Sp w (wY.setCell ⟨ob, 1, none⟩ (.slice aY (ys.length + 1) cY)) [Rows Ty.int 43 (.slice aY (ys ++ [c2]).length cY) (cs ++ [.slice B2 c2.length cap2]) (ys ++ [c2]), Box ob 61 #[.int .i64 n, .slice aY (ys ++ [c2]).length cY], Box (w.heap.size + 1) 61 #[.int .i64 0, .slice none 0 0], Box w.heap.size 61 #[.int .i64 n, .slice (some ⟨b, off, none⟩) xss.length fc]]) := by
                unfold Hid; rw [← hlen]
                have := S6.store (i := 1) rfl 1 (.slice aY (ys.length + 1) cY)
                rw [hlen] at this ⊢
                exact this
              have HC2 : Hid (SmallC (ys ++ [c2])) := fun y hy => by
                rcases List.mem_append.1 hy with hy | hy
                · exact HC.out y hy
                · obtain rfl : y = c2 := by simpa using hy
                  exact ⟨hsm, hc13⟩
              have hyl2 : Hid ((ys ++ [c2]).length = k + 1) := by unfold Hid; rw [← hlen, hyl.out]
              clear S5 S6 hrows hownY hgY hatY kB l1 l1a hbl hyl
              replace hlen := Lib.hid hlen
              go_wp2_with fail
              go_roundw
              case rel => exact ⟨ys ++ [c2], cs ++ [.slice B2 c2.length cap2], aY, cY, k + 1, by omega, by go_num, hyl2, HC2, S7⟩
              case measure => simp [intOf]; omega
        · obtain rfl : k = xss.length := by omega
          have l0 := HS.out.cell (i := 1) rfl (o := 0) rfl
          have l1 := HS.out.cell (i := 1) rfl (o := 1) rfl
          have r0 := HS.out.cell (i := 2) rfl (o := 0) rfl
          have r1 := HS.out.cell (i := 2) rfl (o := 1) rfl
          have f0 := HS.out.frozen (i := 2) rfl 0
          have f1 := HS.out.frozen (i := 2) rfl 1
          have SF := (HS.out.store (i := 2) rfl 0 (.int .i64 n)).store (i := 2) rfl 1 (.slice B ys.length cap)
          have j0 := SF.cell (i := 2) rfl (o := 0) rfl
          have j1 := SF.cell (i := 2) rfl (o := 1) rfl
          have hR := Lib.hid (Sp.front (qs := [_]) SF)
          have hy60 : ys.length ≤ 60 := by rw [hyl.out]; exact hgH.out.2.1
          clear SF HS
          go_wp2_with fail
          exact bodyPost_ret (v := .tuple #[.agg #[.int .i64 n, .slice B ys.length cap], .bool true]) (by simp [results, Tryz.results187, go_sem, j0, j1]) rfl ⟨n, B, cap, cs, ys, true, rfl, by omega, by omega, hy60, HC.out, hR.out⟩
end Go.Proofs.YtahbepajeplcmaaGreatDoor

/- Plain facts: cutting and splitting at a byte. Printed by gen_txt.py. No program in sight. -/
namespace Go.Proofs.YtahbepajeplcmaaGreatDoor

def eqB (c : UInt8) (b : Int) : Bool := (c.toNat : Int) == b
theorem eqB_of (c b : UInt8) : eqB c b.toNat = (c == b) := by
  unfold eqB
  rw [Bool.eq_iff_iff]
  simp only [beq_iff_eq]
  constructor
  · intro h; exact UInt8.toNat_inj.1 (by omega)
  · rintro rfl; rfl
theorem hasB_cons (c : UInt8) (l : List UInt8) (b : Int) : hasB (c :: l) b = (eqB c b || hasB l b) := rfl
theorem hasB_append (l m : List UInt8) (b : Int) : hasB (l ++ m) b = (hasB l b || hasB m b) := by simp [hasB]

/-- A string cut at the first byte b. -/
def cutP (b : Int) : List UInt8 → List UInt8 × List UInt8 × Bool
  | [] => ([], [], false)
  | c :: l => if eqB c b then ([], l, true) else (c :: (cutP b l).1, (cutP b l).2.1, (cutP b l).2.2)
theorem cutP_none {b : Int} : ∀ {l : List UInt8}, hasB l b = false → cutP b l = (l, [], false)
  | [], _ => rfl
  | c :: l, h => by
    rw [hasB_cons] at h
    have h1 : eqB c b = false := by cases e : eqB c b <;> simp_all
    have h2 : hasB l b = false := by cases e : hasB l b <;> simp_all
    rw [cutP, h1, cutP_none h2]; rfl
theorem cutP_some {b : Int} : ∀ {l : List UInt8} {c : UInt8} {m : List UInt8}, hasB l b = false → eqB c b = true → cutP b (l ++ c :: m) = (l, m, true)
  | [], c, m, _, h => by rw [List.nil_append, cutP, h]; rfl
  | x :: l, c, m, h, h' => by
    rw [hasB_cons] at h
    have h1 : eqB x b = false := by cases e : eqB x b <;> simp_all
    have h2 : hasB l b = false := by cases e : hasB l b <;> simp_all
    rw [List.cons_append, cutP, h1, cutP_some h2 h']; rfl
/-- Every string has the byte not at all, or a first time. -/
theorem cut_cases (b : Int) : ∀ l : List UInt8, hasB l b = false ∨ ∃ x c y, l = x ++ c :: y ∧ hasB x b = false ∧ eqB c b = true
  | [] => .inl rfl
  | c :: l => by
    cases e : eqB c b with
    | true => exact .inr ⟨[], c, l, rfl, rfl, e⟩
    | false =>
      rcases cut_cases b l with h | ⟨x, d, y, rfl, h1, h2⟩
      · left; rw [hasB_cons, e, h]; rfl
      · exact .inr ⟨c :: x, d, y, rfl, by rw [hasB_cons, e, h1]; rfl, h2⟩
theorem index_none {b : UInt8} {l : List UInt8} (h : hasB l b.toNat = false) : Lib.indexByte l b = -1 := by
  induction l with
  | nil => rfl
  | cons c l ih =>
    rw [hasB_cons, eqB_of] at h
    have h1 : (c == b) = false := by cases e : (c == b) <;> simp_all
    have h2 : hasB l b.toNat = false := by cases e : hasB l b.toNat <;> simp_all
    rw [Lib.indexByte, if_neg (by rw [h1]; simp), ih h2, if_pos (by decide)]
theorem index_some {b : UInt8} {l m : List UInt8} (h : hasB l b.toNat = false) : Lib.indexByte (l ++ b :: m) b = l.length := by
  induction l with
  | nil => simp [Lib.indexByte]
  | cons c l ih =>
    rw [hasB_cons, eqB_of] at h
    have h1 : (c == b) = false := by cases e : (c == b) <;> simp_all
    have h2 : hasB l b.toNat = false := by cases e : hasB l b.toNat <;> simp_all
    rw [List.cons_append, Lib.indexByte, if_neg (by rw [h1]; simp), ih h2, if_neg (by rw [beq_iff_eq]; omega)]
    simp
theorem lib_cut (b : UInt8) (l : List UInt8) : Lib.cut l [b] = cutP b.toNat l := by
  unfold Lib.cut
  rw [Lib.index_one]
  rcases cut_cases b.toNat l with h | ⟨x, c, y, rfl, h1, h2⟩
  · rw [index_none h, if_neg (by decide), cutP_none h]
  · have e : c = b := by have := eqB_of c b; rw [h2] at this; simpa using this.symm
    subst e
    rw [index_some h1, if_pos (by omega), cutP_some h1 h2]
    simp
theorem lib_has (b : UInt8) (l : List UInt8) : decide (0 ≤ Lib.indexByte l b) = hasB l b.toNat := by
  rcases cut_cases b.toNat l with h | ⟨x, c, y, rfl, h1, h2⟩
  · rw [index_none h, h]; decide
  · have e : c = b := by have := eqB_of c b; rw [h2] at this; simpa using this.symm
    subst e
    rw [index_some h1, hasB_append, hasB_cons, h2]
    simp

/-- A string split at every byte b. -/
def splitP (b : Int) : List UInt8 → List (List UInt8)
  | [] => [[]]
  | c :: l => if eqB c b then [] :: splitP b l else match splitP b l with
    | p :: ps => (c :: p) :: ps
    | [] => [[c]]
theorem splitP_none {b : Int} : ∀ {l : List UInt8}, hasB l b = false → splitP b l = [l]
  | [], _ => rfl
  | c :: l, h => by
    rw [hasB_cons] at h
    have h1 : eqB c b = false := by cases e : eqB c b <;> simp_all
    have h2 : hasB l b = false := by cases e : hasB l b <;> simp_all
    rw [splitP, h1, splitP_none h2]; rfl
theorem splitP_some {b : Int} : ∀ {l : List UInt8} {c : UInt8} {m : List UInt8}, hasB l b = false → eqB c b = true → splitP b (l ++ c :: m) = l :: splitP b m
  | [], c, m, _, h => by rw [List.nil_append, splitP, h]; rfl
  | x :: l, c, m, h, h' => by
    rw [hasB_cons] at h
    have h1 : eqB x b = false := by cases e : eqB x b <;> simp_all
    have h2 : hasB l b = false := by cases e : hasB l b <;> simp_all
    rw [List.cons_append, splitP, h1, splitP_some h2 h']; rfl
theorem splitP_ne (b : Int) : ∀ l : List UInt8, splitP b l ≠ []
  | [] => by simp [splitP]
  | c :: l => by
    rw [splitP]
    split
    · simp
    · split <;> simp
theorem splitP_head (b : Int) (l : List UInt8) : ∃ ps, splitP b l = (cutP b l).1 :: ps ∧ (ps ≠ [] ↔ hasB l b = true) := by
  rcases cut_cases b l with h | ⟨x, c, y, rfl, h1, h2⟩
  · exact ⟨[], by rw [splitP_none h, cutP_none h], by rw [h]; simp⟩
  · refine ⟨splitP b y, by rw [splitP_some h1 h2, cutP_some h1 h2], ?_⟩
    rw [hasB_append, hasB_cons, h2]
    simp [splitP_ne]
theorem splitP_len (b : Int) : ∀ l : List UInt8, (splitP b l).length ≤ l.length + 1
  | [] => by simp [splitP]
  | c :: l => by
    have := splitP_len b l
    rw [splitP]
    split
    · simp; omega
    · have hn := splitP_ne b l
      split
      · rename_i p ps e; rw [e] at this; simp at *; omega
      · simp
end Go.Proofs.YtahbepajeplcmaaGreatDoor

/- Plain facts: numbers read back from their text. Printed by gen_txt.py. No program in sight. -/
namespace Go.Proofs.YtahbepajeplcmaaGreatDoor

def isDig (c : UInt8) : Bool := decide (48 ≤ c.toNat) && decide (c.toNat ≤ 57)
theorem isDig_true {c : UInt8} : isDig c = true ↔ 48 ≤ c.toNat ∧ c.toNat ≤ 57 := by simp [isDig]
/-- What digits spell. -/
def valD (l : List UInt8) : Nat := l.foldl (fun a c => a * 10 + (c.toNat - 48)) 0
theorem valD_snoc (l : List UInt8) (c : UInt8) : valD (l ++ [c]) = valD l * 10 + (c.toNat - 48) := by simp [valD]
theorem valD_lt : ∀ (n : Nat) (l : List UInt8), l.length = n → l.all isDig = true → valD l < 10 ^ n
  | 0, l, h, _ => by
    obtain rfl := List.length_eq_zero_iff.1 h
    decide
  | n + 1, l, h, hd => by
    rcases List.eq_nil_or_concat l with rfl | ⟨l', c, rfl⟩
    · simp at h
    · rw [List.concat_eq_append] at h hd ⊢
      rw [List.all_append, Bool.and_eq_true] at hd
      have h1 := valD_lt n l' (by simpa using h) hd.1
      have h2 : isDig c = true := by simpa using hd.2
      rw [isDig_true] at h2
      rw [valD_snoc, Nat.pow_succ]
      omega
theorem parse_digits : ∀ (l : List UInt8) (acc : Nat), l.all isDig = true → (acc + 1) * 10 ^ l.length ≤ 100000000000000000 → Lib.parseUint10 acc l = .ok (l.foldl (fun a c => a * 10 + (c.toNat - 48)) acc)
  | [], _, _, _ => rfl
  | c :: r, acc, hd, hb => by
    rw [List.all_cons, Bool.and_eq_true] at hd
    have h1 := isDig_true.1 hd.1
    have h2 : (acc * 10 + (c.toNat - 48) + 1) * 10 ^ r.length ≤ 100000000000000000 := by
      refine Nat.le_trans (Nat.mul_le_mul_right _ (show _ ≤ (acc + 1) * 10 by omega)) ?_
      rw [List.length_cons, Nat.pow_succ] at hb
      rw [Nat.mul_assoc, Nat.mul_comm 10]
      exact hb
    have h3 : acc + 1 ≤ 100000000000000000 := Nat.le_trans (Nat.le_mul_of_pos_right _ (Nat.pow_pos (by decide))) hb
    have h4 : acc * 10 + (c.toNat - 48) + 1 ≤ 100000000000000000 := Nat.le_trans (Nat.le_mul_of_pos_right _ (Nat.pow_pos (by decide))) h2
    rw [Lib.parseUint10, if_pos h1, if_neg (by omega), if_neg (by omega), parse_digits r _ hd.2 h2]
    rfl
theorem decDigits_all (u : Nat) : (Lib.decDigits u).all isDig = true := by
  rw [List.all_eq_true]
  intro c hc
  exact isDig_true.2 (decDigits_digit u u (Nat.le_refl _) c hc)
theorem valD_dec : ∀ (n u : Nat), u ≤ n → valD (Lib.decDigits u) = u
  | n, u, hn => by
    by_cases h : u < 10
    · rw [Lib.decDigits, dif_pos h]
      simp [valD]; omega
    · rw [decDigits_big h, valD_snoc]
      cases n with
      | zero => omega
      | succ n =>
        rw [valD_dec n (u / 10) (by omega)]
        simp; omega
termination_by n => n
theorem dec_len6 {u : Nat} (h : u ≤ 999999) : 1 ≤ (Lib.decDigits u).length ∧ (Lib.decDigits u).length ≤ 6 := by
  have h1 := decDigits_len 5 u (by omega)
  have h2 := List.length_pos_iff.2 (decDigits_ne u)
  omega
theorem dec_head {u : Nat} {c : UInt8} {r : List UInt8} (h : Lib.decDigits u = c :: r) : 48 ≤ c.toNat ∧ c.toNat ≤ 57 := decDigits_digit u u (Nat.le_refl _) c (by rw [h]; exact List.mem_cons_self)
theorem parseMag_dec {u : Nat} (h : u ≤ 999999) : Lib.parseMag (Lib.decDigits u) = .ok u := by
  have hl := dec_len6 h
  unfold Lib.parseMag
  rw [if_neg (decDigits_ne u), parse_digits _ _ (decDigits_all u) ?_]
  · exact congrArg _ (valD_dec u u (Nat.le_refl _))
  · have : 10 ^ (Lib.decDigits u).length ≤ 10 ^ 6 := Nat.pow_le_pow_right (by decide) hl.2
    omega
/-- The text of a number is read back. -/
theorem atoi_itoa {v : Int} (h0 : -999999 ≤ v) (h1 : v ≤ 999999) : Lib.atoiAll (Lib.itoa v) = .ok v := by
  rcases Int.lt_or_le v 0 with h | h
  · obtain ⟨u, rfl⟩ : ∃ u : Nat, v = -(u : Int) := ⟨v.natAbs, by omega⟩
    rw [itoa_neg u (by omega)]
    unfold Lib.atoiAll
    simp [parseMag_dec (show u ≤ 999999 by omega)]
    omega
  · obtain ⟨u, rfl⟩ := Int.eq_ofNat_of_zero_le h
    rw [itoa_nat]
    obtain ⟨c, r, hc⟩ := List.exists_cons_of_ne_nil (decDigits_ne u)
    have hh := dec_head hc
    have hm := parseMag_dec (show u ≤ 999999 by omega)
    rw [hc] at hm ⊢
    unfold Lib.atoiAll
    simp only
    rw [if_neg (by omega), hm]
    simp only
    rw [if_neg (by omega), if_neg (by omega), if_neg (by omega)]

/-- The number that a text is the text of. -/
def numB (l : List UInt8) : Int × Bool :=
  match Lib.atoiAll l with
  | .ok v => if inB v (-999999) 999999 && Lib.itoa v == l then (v, true) else (0, false)
  | _ => (0, false)
theorem numB_itoa {v : Int} (h0 : -999999 ≤ v) (h1 : v ≤ 999999) : numB (Lib.itoa v) = (v, true) := by
  unfold numB
  rw [atoi_itoa h0 h1]
  simp only
  rw [if_pos (by simp [inB_true, h0, h1])]
theorem numB_not {l : List UInt8} (h : ∀ v : Int, -999999 ≤ v → v ≤ 999999 → Lib.itoa v ≠ l) : numB l = (0, false) := by
  unfold numB
  split
  · rename_i v _
    rw [if_neg]
    intro e
    simp only [Bool.and_eq_true, inB_true, beq_iff_eq] at e
    exact h v e.1.1 e.1.2 e.2
  · rfl
theorem numB_ok {l : List UInt8} {v : Int} (h : Lib.atoiAll l = .ok v) : numB l = if inB v (-999999) 999999 && Lib.itoa v == l then (v, true) else (0, false) := by
  unfold numB; rw [h]
theorem numB_no {l : List UInt8} (h : ∀ v, Lib.atoiAll l ≠ .ok v) : numB l = (0, false) := by
  unfold numB
  split
  · rename_i v e; exact absurd e (h v)
  · rfl
/-- Text behind a sign, and the sign. -/
def negB (l : List UInt8) : Bool := decide (1 < l.length) && (l.head?.map (·.toNat) == some 45)
def magB (l : List UInt8) : List UInt8 := if negB l then l.tail else l
def sgnV (l : List UInt8) : Int := if negB l then -(valD (magB l) : Int) else valD (magB l)
/-- The reference's reading: digits, and the text of their number is the text. -/
theorem numB_read (l : List UInt8) : numB l = if inB (magB l).length 1 6 && (magB l).all isDig && Lib.itoa (sgnV l) == l then (sgnV l, true) else (0, false) := by
  by_cases hc : (inB (magB l).length 1 6 && (magB l).all isDig && Lib.itoa (sgnV l) == l) = true
  · rw [if_pos hc]
    simp only [Bool.and_eq_true, inB_true, beq_iff_eq] at hc
    obtain ⟨⟨⟨h1, h2⟩, h3⟩, h4⟩ := hc
    have hv := valD_lt _ (magB l) rfl h3
    have hp : 10 ^ (magB l).length ≤ 10 ^ 6 := Nat.pow_le_pow_right (by decide) (by omega)
    have hb : -999999 ≤ sgnV l ∧ sgnV l ≤ 999999 := by unfold sgnV; split <;> omega
    have := numB_itoa hb.1 hb.2
    rw [h4] at this
    exact this
  · rw [if_neg hc]
    refine numB_not fun v h0 h1 e => hc ?_
    subst e
    rcases Int.lt_or_le v 0 with h | h
    · obtain ⟨u, rfl⟩ : ∃ u : Nat, v = -(u : Int) := ⟨v.natAbs, by omega⟩
      have hl := dec_len6 (show u ≤ 999999 by omega)
      have hI := itoa_neg u (by omega)
      have hn : negB (Lib.itoa (-(u : Int))) = true := by rw [hI]; simp [negB]; omega
      have hm : magB (Lib.itoa (-(u : Int))) = Lib.decDigits u := by unfold magB; rw [hn, hI]; rfl
      have hs : sgnV (Lib.itoa (-(u : Int))) = -(u : Int) := by unfold sgnV; rw [hn, hm, valD_dec u u (Nat.le_refl _)]; rfl
      rw [hs, hm]
      simp only [Bool.and_eq_true, inB_true, beq_self_eq_true, and_true]
      exact ⟨by omega, decDigits_all u⟩
    · obtain ⟨u, rfl⟩ := Int.eq_ofNat_of_zero_le h
      have hl := dec_len6 (show u ≤ 999999 by omega)
      have hI := itoa_nat u
      obtain ⟨c, r, hcr⟩ := List.exists_cons_of_ne_nil (decDigits_ne u)
      have hh := dec_head hcr
      have hn : negB (Lib.itoa (u : Int)) = false := by
        rw [hI, hcr]
        simp only [negB, List.head?_cons, Option.map_some, Bool.and_eq_false_iff, beq_eq_false_iff_ne, ne_eq, Option.some.injEq]
        right; omega
      have hm : magB (Lib.itoa (u : Int)) = Lib.decDigits u := by unfold magB; rw [hn, hI]; rfl
      have hs : sgnV (Lib.itoa (u : Int)) = (u : Int) := by unfold sgnV; rw [hn, hm, valD_dec u u (Nat.le_refl _)]; rfl
      rw [hs, hm]
      simp only [Bool.and_eq_true, inB_true, beq_self_eq_true, and_true]
      exact ⟨by omega, decDigits_all u⟩
end Go.Proofs.YtahbepajeplcmaaGreatDoor

/- (Printed by gen_txt.py.) Plain facts: a string split at a byte and joined again. No program in sight. -/
namespace Go.Proofs.YtahbepajeplcmaaGreatDoor

theorem eqB_self (c : UInt8) : eqB c c.toNat = true := by rw [eqB_of]; simp
theorem eqB_inj {c d : UInt8} (h : eqB d c.toNat = true) : d = c := by rw [eqB_of] at h; simpa using h
theorem count_none {c : UInt8} : ∀ {l : List UInt8}, hasB l c.toNat = false → l.count c = 0
  | [], _ => rfl
  | d :: l, h => by
    rw [hasB_cons] at h
    have h1 : eqB d c.toNat = false := by cases e : eqB d c.toNat <;> simp_all
    have h2 : hasB l c.toNat = false := by cases e : hasB l c.toNat <;> simp_all
    rw [eqB_of] at h1
    rw [List.count_cons, count_none h2, h1]
    rfl
theorem splitK_one (c : UInt8) : ∀ (n : Nat) (l : List UInt8), l.length ≤ n → Lib.splitK [c] 0 (Lib.count l [c]) l = splitP c.toNat l := by
  intro n
  induction n with
  | zero =>
    intro l hl
    obtain rfl : l = [] := List.length_eq_zero_iff.1 (by omega)
    rw [Lib.count_one]; rfl
  | succ n ih =>
    intro l hl
    rcases cut_cases c.toNat l with h | ⟨x, d, y, rfl, h1, h2⟩
    · rw [Lib.count_one, count_none h, splitP_none h]; rfl
    · obtain rfl : d = c := eqB_inj h2
      have hc : Lib.count (x ++ d :: y) [d] = Lib.count y [d] + 1 := by
        rw [Lib.count_one, Lib.count_one, List.count_append, count_none h1, List.count_cons_self]; omega
      have hi : Lib.index (x ++ d :: y) [d] = x.length := by rw [Lib.index_one, index_some h1]
      rw [hc, splitP_some h1 h2, Lib.splitK, hi, if_neg (by rw [beq_iff_eq]; omega)]
      have ht : (x ++ d :: y).take (((x.length : Nat) : Int).toNat + 0) = x := by simp
      have hd : (x ++ d :: y).drop (((x.length : Nat) : Int).toNat + [d].length) = y := by
        rw [Int.toNat_natCast, List.length_singleton, List.drop_append, List.drop_of_length_le (by omega)]
        simp [show x.length + 1 - x.length = 1 by omega]
      rw [ht, hd, ih y (by simp at hl; omega)]

theorem joinTail_cons (sep x : List UInt8) (r : List (List UInt8)) : Lib.joinTail sep (x :: r) = sep ++ x ++ Lib.joinTail sep r := by simp [Lib.joinTail]
/-- The parts joined again are the string. -/
theorem join_split (c : UInt8) : ∀ l : List UInt8, Lib.join (splitP c.toNat l) [c] = l
  | [] => by rw [splitP, Lib.join_one]
  | d :: l => by
    have ih := join_split c l
    rw [splitP]
    obtain ⟨p, ps, hp⟩ := List.exists_cons_of_ne_nil (splitP_ne c.toNat l)
    rw [hp] at ih ⊢
    rw [Lib.join_cons] at ih
    split
    · rename_i h
      obtain rfl := eqB_inj h
      rw [Lib.join_cons, joinTail_cons, List.nil_append, List.append_assoc, ih]; rfl
    · simp only
      rw [Lib.join_cons, List.cons_append, ih]
/-- No part has the byte. -/
theorem split_has (b : Int) : ∀ l : List UInt8, ∀ p ∈ splitP b l, hasB p b = false
  | [] => by simp [splitP, hasB]
  | d :: l => by
    have ih := split_has b l
    obtain ⟨p, ps, hp⟩ := List.exists_cons_of_ne_nil (splitP_ne b l)
    rw [splitP, hp]
    rw [hp] at ih
    intro q hq
    split at hq
    · rcases List.mem_cons.1 hq with rfl | hq
      · rfl
      · exact ih q hq
    · rename_i h
      simp only at hq
      rcases List.mem_cons.1 hq with rfl | hq
      · rw [hasB_cons, ih p List.mem_cons_self, Bool.or_false]
        simpa using h
      · exact ih q (List.mem_cons_of_mem _ hq)
/-- Parts may be joined: none has the byte, the whole is short. -/
def fitJ (c : UInt8) (xs : List (List UInt8)) : Bool := !(xs.any fun x => hasB x c.toNat) && decide ((Lib.join xs [c]).length ≤ 4000)
/-- What JoinStrings gives. -/
def joinB (sep : List UInt8) (xs : List (List UInt8)) : List UInt8 × Bool :=
  match sep, xs with
  | [c], x :: r => if fitJ c (x :: r) then (Lib.join (x :: r) [c], true) else ([], false)
  | _, _ => ([], false)
theorem joinB_nil (sep : List UInt8) : joinB sep [] = ([], false) := by
  unfold joinB
  split
  · rename_i h; cases h
  · rfl
theorem joinB_sep {sep : List UInt8} (h : sep.length ≠ 1) (xs : List (List UInt8)) : joinB sep xs = ([], false) := by
  unfold joinB
  split
  · exact absurd rfl h
  · rfl
theorem joinB_one {c : UInt8} {xs : List (List UInt8)} (h : xs ≠ []) : joinB [c] xs = if fitJ c xs then (Lib.join xs [c], true) else ([], false) := by
  cases xs with
  | nil => exact absurd rfl h
  | cons x r => rfl
theorem join_back {c : UInt8} {l : List UInt8} (h : l.length ≤ 4000) : joinB [c] (splitP c.toNat l) = (l, true) := by
  rw [joinB_one (splitP_ne _ _), if_pos, join_split]
  unfold fitJ
  rw [join_split, decide_eq_true h, Bool.and_true, Bool.not_eq_true']
  rw [List.any_eq_false]
  intro p hp
  rw [split_has _ _ p hp]; simp
theorem join_snoc {xs : List (List UInt8)} (h : xs ≠ []) (y sep : List UInt8) : Lib.join (xs ++ [y]) sep = Lib.join xs sep ++ sep ++ y := by
  cases xs with
  | nil => exact absurd rfl h
  | cons x r =>
    rw [List.cons_append, Lib.join_cons, Lib.join_cons]
    simp [Lib.joinTail]
theorem join_len {xs : List (List UInt8)} (h : xs ≠ []) (c : UInt8) : (Lib.join xs [c]).length + 1 = xs.length + Lib.lens xs := by
  cases xs with
  | nil => exact absurd rfl h
  | cons x r => rw [Lib.join_length]; simp; omega
theorem join_take_le (c : UInt8) (xs : List (List UInt8)) (k : Nat) (hk : 0 < k) : (Lib.join (xs.take k) [c]).length ≤ (Lib.join xs [c]).length := by
  cases xs with
  | nil => simp
  | cons x r =>
    obtain ⟨j, rfl⟩ : ∃ j, k = j + 1 := ⟨k - 1, by omega⟩
    rw [List.take_succ_cons, Lib.join_cons, Lib.join_cons, List.length_append, List.length_append]
    have := Lib.joinTail_take_le [c] r j
    omega
theorem fit_no_has {c : UInt8} {xs : List (List UInt8)} {k : Nat} (hk : k < xs.length) (h : hasB xs[k] c.toNat = true) : fitJ c xs = false := by
  unfold fitJ
  have : (xs.any fun x => hasB x c.toNat) = true := List.any_eq_true.2 ⟨_, List.getElem_mem hk, h⟩
  rw [this]; rfl
theorem fit_no_len {c : UInt8} {xs : List (List UInt8)} {k : Nat} (hk : 0 < k) (h : 4000 < (Lib.join (xs.take k) [c]).length) : fitJ c xs = false := by
  unfold fitJ
  have := join_take_le c xs k hk
  rw [decide_eq_false (by omega), Bool.and_false]
theorem fit_yes {c : UInt8} {xs : List (List UInt8)} (h1 : (xs.any fun x => hasB x c.toNat) = false) (h2 : (Lib.join xs [c]).length ≤ 4000) : fitJ c xs = true := by
  unfold fitJ
  rw [h1, decide_eq_true h2]; rfl
theorem any_snoc {c : UInt8} {xs : List (List UInt8)} {k : Nat} (hk : k < xs.length) (h : ((xs.take k).any fun x => hasB x c.toNat) = false) (h1 : hasB xs[k] c.toNat = false) : ((xs.take (k + 1)).any fun x => hasB x c.toNat) = false := by
  rw [List.take_succ_eq_append_getElem hk, List.any_append, h]
  simp [h1]
end Go.Proofs.YtahbepajeplcmaaGreatDoor

/- Plain facts: the text of a clause, and the clause of a text. -/
namespace Go.Proofs.YtahbepajeplcmaaGreatDoor

def noneT : List UInt8 := [110, 111, 110, 101]
/-- The text of a clause. -/
def txtC (c : List Int) : List UInt8 := if c = [] then noneT else Lib.join (c.map Lib.itoa) [32]
theorem txtC_nil : txtC [] = noneT := rfl
theorem txtC_ne {c : List Int} (h : c ≠ []) : txtC c = Lib.join (c.map Lib.itoa) [32] := if_neg h
def numsOk (ps : List (List UInt8)) : Bool := ps.all fun p => (numB p).2
def numsV (ps : List (List UInt8)) : List Int := ps.map fun p => (numB p).1
/-- The clause of a text, and whether there is one. -/
def parC (vars : Int) (s : List UInt8) : List Int × Bool :=
  if s = noneT then ([], inB vars 0 12)
  else if numsOk (splitP 32 s) && clauseB vars (numsV (splitP 32 s)) then (numsV (splitP 32 s), true) else ([], false)
theorem parC_none {vars : Int} {s : List UInt8} (h : s = noneT) : parC vars s = ([], inB vars 0 12) := if_pos h
theorem parC_some {vars : Int} {s : List UInt8} (h : s ≠ noneT) : parC vars s = if numsOk (splitP 32 s) && clauseB vars (numsV (splitP 32 s)) then (numsV (splitP 32 s), true) else ([], false) := if_neg h
theorem numB_back {p : List UInt8} (h : (numB p).2 = true) : Lib.itoa (numB p).1 = p ∧ -999999 ≤ (numB p).1 ∧ (numB p).1 ≤ 999999 := by
  unfold numB at h ⊢
  split at h
  · rename_i v hv
    split at h
    · rename_i hc
      simp only [Bool.and_eq_true, inB_true, beq_iff_eq] at hc
      simp only [hc.1.1, hc.1.2, hc.2, inB, decide_true, Bool.and_self, BEq.rfl, if_true]
      exact ⟨trivial, trivial, trivial⟩
    · cases h
  · cases h
theorem numsV_back : ∀ {ps : List (List UInt8)}, numsOk ps = true → (numsV ps).map Lib.itoa = ps
  | [], _ => rfl
  | p :: ps, h => by
    simp only [numsOk, List.all_cons, Bool.and_eq_true] at h
    simp only [numsV, List.map_cons]
    rw [(numB_back h.1).1]
    congr 1
    exact numsV_back h.2
theorem numsV_itoa : ∀ {c : List Int}, (∀ l ∈ c, -999999 ≤ l ∧ l ≤ 999999) → numsOk (c.map Lib.itoa) = true ∧ numsV (c.map Lib.itoa) = c
  | [], _ => ⟨rfl, rfl⟩
  | l :: c, h => by
    have h1 := numB_itoa (h l (by simp)).1 (h l (by simp)).2
    obtain ⟨h2, h3⟩ := numsV_itoa (c := c) (fun x hx => h x (by simp [hx]))
    refine ⟨?_, ?_⟩
    · simp only [numsOk, List.map_cons, List.all_cons, h1, Bool.true_and]
      exact h2
    · simp only [numsV, List.map_cons, h1]
      congr 1
theorem dig_no_byte {b : Int} (hb : b < 48) : ∀ (n u : Nat), u ≤ n → hasB (Lib.decDigits u) b = false := by
  intro n u hu
  unfold hasB
  rw [List.any_eq_false]
  intro c hc
  have := decDigits_digit n u hu c hc
  simp only [eqB, beq_iff_eq]
  omega
theorem itoa_no32 (v : Int) : hasB (Lib.itoa v) 32 = false := by
  unfold Lib.itoa
  split
  · rw [hasB_cons, dig_no_byte (by decide) _ _ (Nat.le_refl _)]; rfl
  · exact dig_no_byte (by decide) _ _ (Nat.le_refl _)
theorem itoa_head (v : Int) : ∃ c r, Lib.itoa v = c :: r ∧ c.toNat ≤ 57 := by
  unfold Lib.itoa
  split
  · exact ⟨_, _, rfl, by decide⟩
  · obtain ⟨c, r, h⟩ := List.exists_cons_of_ne_nil (decDigits_ne v.toNat)
    exact ⟨c, r, h, (decDigits_digit v.toNat v.toNat (Nat.le_refl _) c (by rw [h]; simp)).2⟩
theorem split_join : ∀ {xs : List (List UInt8)}, xs ≠ [] → (∀ x ∈ xs, hasB x 32 = false) → splitP 32 (Lib.join xs [32]) = xs
  | [], h, _ => absurd rfl h
  | [x], _, h => by rw [Lib.join_one]; exact splitP_none (h x (by simp))
  | x :: y :: xs, _, h => by
    have ih := split_join (xs := y :: xs) (by simp) (fun z hz => h z (by simp [hz]))
    rw [Lib.join_cons] at ih
    rw [Lib.join_cons, joinTail_cons, List.append_assoc, List.singleton_append, splitP_some (h x (by simp)) (by decide), ih]
theorem join_head {x : List UInt8} {xs : List (List UInt8)} : ∃ t, Lib.join (x :: xs) [32] = x ++ t := ⟨_, Lib.join_cons _ _ _⟩
theorem text_not_none {c : List Int} (h : c ≠ []) : txtC c ≠ noneT := by
  rw [txtC_ne h]
  obtain ⟨l, r, rfl⟩ := List.exists_cons_of_ne_nil h
  obtain ⟨t, ht⟩ := join_head (x := Lib.itoa l) (xs := r.map Lib.itoa)
  obtain ⟨d, q, hq, hd⟩ := itoa_head l
  rw [List.map_cons, ht, hq]
  intro e
  simp only [noneT, List.cons_append, List.cons.injEq] at e
  rw [e.1] at hd
  exact absurd hd (by decide)
theorem clause_small {vars : Int} {c : List Int} (h : clauseB vars c = true) : ∀ l ∈ c, -12 ≤ l ∧ l ≤ 12 := by
  intro l hl
  have hp := clause_parts h
  have := hp.2.1 l hl
  omega
theorem clause_vars {vars : Int} {c : List Int} (h : clauseB vars c = true) : inB vars 0 12 = true := by
  unfold clauseB at h
  rw [Bool.and_eq_true] at h
  exact h.1
/-- A clause is recovered from its text. -/
theorem par_text {vars : Int} {c : List Int} (h : clauseB vars c = true) : parC vars (txtC c) = (c, true) := by
  by_cases hc : c = []
  · subst hc
    rw [parC_none txtC_nil, clause_vars h]
  · have hs := clause_small h
    obtain ⟨h1, h2⟩ := numsV_itoa (c := c) (fun l hl => by have := hs l hl; omega)
    have h3 : splitP 32 (txtC c) = c.map Lib.itoa := by
      rw [txtC_ne hc]
      refine split_join (by simpa using hc) ?_
      intro x hx
      obtain ⟨l, _, rfl⟩ := List.mem_map.1 hx
      exact itoa_no32 l
    rw [parC_some (text_not_none hc), h3, h1, h2, h]; rfl
/-- A text is recovered from its clause. -/
theorem text_par {vars : Int} {s : List UInt8} {c : List Int} (h : parC vars s = (c, true)) : txtC c = s ∧ clauseB vars c = true := by
  by_cases hs : s = noneT
  · rw [parC_none hs] at h
    obtain ⟨rfl, h2⟩ := Prod.mk.inj h
    exact ⟨hs.symm, by unfold clauseB; rw [h2]; rfl⟩
  · rw [parC_some hs] at h
    split at h
    · rename_i hc
      rw [Bool.and_eq_true] at hc
      obtain ⟨rfl, _⟩ := Prod.mk.inj h
      refine ⟨?_, hc.2⟩
      have hne : numsV (splitP 32 s) ≠ [] := by
        unfold numsV
        simpa using splitP_ne 32 s
      rw [txtC_ne hne, numsV_back hc.1]
      exact join_split 32 s
    · cases (Prod.mk.inj h).2
theorem par_no {vars : Int} {s : List UInt8} {c : List Int} (h : parC vars s = (c, false)) : c = [] := by
  unfold parC at h
  split at h
  · exact (Prod.mk.inj h).1.symm
  · split at h
    · cases (Prod.mk.inj h).2
    · exact (Prod.mk.inj h).1.symm
/-- What fails in the course of the reading. -/
theorem par_fail {vars : Int} {s : List UInt8} (h : s ≠ noneT) {k : Nat} {ps : List (List UInt8)} (hp : splitP 32 s = ps) (hk : k < ps.length) (hn : (numB ps[k]).2 = false) : parC vars s = ([], false) := by
  rw [parC_some h, hp]
  have : numsOk ps = false := by
    unfold numsOk
    rw [List.all_eq_false]
    exact ⟨_, List.getElem_mem hk, by rw [hn]; simp⟩
  rw [this]; rfl
theorem par_clause {vars : Int} {s : List UInt8} (h : s ≠ noneT) {ps : List (List UInt8)} (hp : splitP 32 s = ps) (ho : numsOk ps = true) : parC vars s = if clauseB vars (numsV ps) then (numsV ps, true) else ([], false) := by
  rw [parC_some h, hp, ho, Bool.true_and]
theorem nums_step {ps : List (List UInt8)} {k : Nat} (hk : k < ps.length) (h : numsOk (ps.take k) = true) (hn : (numB ps[k]).2 = true) : numsOk (ps.take (k + 1)) = true ∧ numsV (ps.take (k + 1)) = numsV (ps.take k) ++ [(numB ps[k]).1] := by
  rw [List.take_succ_eq_append_getElem hk]
  unfold numsOk numsV at *
  refine ⟨by rw [List.all_append, h]; simp [hn], by rw [List.map_append]; rfl⟩
theorem par_long {vars : Int} {s : List UInt8} (h : s ≠ noneT) {ps : List (List UInt8)} (hp : splitP 32 s = ps) (hl : 12 < ps.length) : parC vars s = ([], false) := by
  rw [parC_some h, hp]
  have : clauseB vars (numsV ps) = false := by
    cases e : clauseB vars (numsV ps)
    · rfl
    · have := clause_len e
      simp only [numsV, List.length_map] at this
      omega
  rw [this, Bool.and_false]; rfl
theorem split_part_len (b : Int) : ∀ l : List UInt8, ∀ p ∈ splitP b l, p.length ≤ l.length
  | [] => by simp [splitP]
  | d :: l => by
    have ih := split_part_len b l
    intro p hp
    rw [splitP] at hp
    split at hp
    · rcases List.mem_cons.1 hp with rfl | hp
      · simp
      · have := ih p hp; simp only [List.length_cons]; omega
    · obtain ⟨q, qs, hq⟩ := List.exists_cons_of_ne_nil (splitP_ne b l)
      rw [hq] at hp ih
      simp only [List.mem_cons] at hp
      rcases hp with rfl | hp
      · have := ih q (by simp); simp only [List.length_cons]; omega
      · have := ih p (by simp [hp]); simp only [List.length_cons]; omega
end Go.Proofs.YtahbepajeplcmaaGreatDoor

/- Plain facts: the text of a Cnf, and the Cnf of a text. No program in sight. -/
namespace Go.Proofs.YtahbepajeplcmaaGreatDoor

def sep2 : List UInt8 := [59, 32]
def cnfT (vars : Int) (xss : List (List Int)) : List UInt8 := Lib.join (Lib.itoa vars :: xss.map txtC) sep2

/-- The parts of a text, joined again, are the text. -/
theorem join_splitK (sep : List UInt8) : ∀ (k : Nat) (l : List UInt8), Lib.join (Lib.splitK sep 0 k l) sep = l
  | 0, l => by rw [Lib.splitK, Lib.join_one]
  | k + 1, l => by
    rw [Lib.splitK]
    rcases Lib.index_spec l sep with ⟨h1, -⟩ | ⟨i, h1, h2, h3, -⟩
    · rw [h1]; simp [Lib.join_one]
    · have hne : ((i : Int) == -1) = false := by rw [beq_eq_false_iff_ne]; omega
      rw [h1, hne]
      have ih := join_splitK sep k (l.drop (((i : Nat) : Int).toNat + sep.length))
      simp only [Bool.false_eq_true, if_false, Nat.add_zero, Int.toNat_natCast] at ih ⊢
      have hroom : i + sep.length ≤ l.length := by
        rcases Lib.occAt_room h3 with h | h
        · exact h
        · rw [h]; simpa using h2
      have hs := Lib.occAt_iff_take l sep i hroom
      rw [h3] at hs
      have hs2 : (l.drop i).take sep.length = sep := by simpa using hs.symm
      have hl : l = l.take i ++ (sep ++ l.drop (i + sep.length)) := by
        conv => lhs; rw [← List.take_append_drop i l, ← List.take_append_drop sep.length (l.drop i), hs2, List.drop_drop]
      cases hq : Lib.splitK sep 0 k (l.drop (i + sep.length)) with
      | nil =>
        exfalso
        cases k with
        | zero => rw [Lib.splitK] at hq; cases hq
        | succ k => rw [Lib.splitK] at hq; split at hq <;> cases hq
      | cons p ps =>
        rw [hq] at ih
        rw [Lib.join_cons] at ih
        rw [Lib.join_cons, joinTail_cons, List.append_assoc, ih]
        exact hl.symm
theorem join_split2 (l : List UInt8) : Lib.join (Lib.split l sep2) sep2 = l := join_splitK _ _ _

theorem no_occ {x : List UInt8} (h : hasB x 59 = false) (r : List UInt8) : ∀ j, j < x.length → Lib.occAt (x ++ r) sep2 j = false := by
  intro j hj
  cases ho : Lib.occAt (x ++ r) sep2 j with
  | false => rfl
  | true =>
    exfalso
    have h1 := Lib.occAt_head (s := x ++ r) (sub := sep2) (c := 59) (t := [32]) rfl ho
    rw [List.getElem?_append_left hj, List.getElem?_eq_getElem hj] at h1
    have hx : x[j] = 59 := by simpa using h1
    have hm := List.getElem_mem hj
    rw [hx] at hm
    unfold hasB at h
    rw [List.any_eq_false] at h
    exact h 59 hm (by decide)
theorem index2_none {x : List UInt8} (h : hasB x 59 = false) : Lib.index x sep2 = -1 := by
  refine Lib.index_none fun j hj => ?_
  rcases Nat.lt_or_ge j x.length with hlt | hge
  · have := no_occ h [] j hlt
    rwa [List.append_nil] at this
  · obtain rfl : j = x.length := by omega
    simp [Lib.occAt, sep2]
theorem index2_some {x : List UInt8} (h : hasB x 59 = false) (r : List UInt8) : Lib.index (x ++ (sep2 ++ r)) sep2 = x.length :=
  Lib.index_first (by simp) (by simp [Lib.occAt, sep2]) (no_occ h _)
/-- Parts without a semicolon are found again. -/
theorem split2_join : ∀ {ps : List (List UInt8)}, ps ≠ [] → (∀ p ∈ ps, hasB p 59 = false) → Lib.split (Lib.join ps sep2) sep2 = ps
  | [], h, _ => absurd rfl h
  | [p], _, h => by
    have hp := index2_none (h p (by simp))
    rw [Lib.join_one]
    unfold Lib.split
    rw [Lib.count_miss hp, Lib.splitK]
  | p :: q :: ps, _, h => by
    have ih := split2_join (ps := q :: ps) (by simp) (fun x hx => h x (List.mem_cons_of_mem _ hx))
    have e : Lib.join (p :: q :: ps) sep2 = p ++ (sep2 ++ Lib.join (q :: ps) sep2) := by
      rw [Lib.join_cons, joinTail_cons, Lib.join_cons, List.append_assoc]
    have hi := index2_some (h p (by simp)) (Lib.join (q :: ps) sep2)
    rw [e]
    unfold Lib.split at ih ⊢
    rw [Lib.count_hit (by decide) hi]
    have hd : (p ++ (sep2 ++ Lib.join (q :: ps) sep2)).drop (p.length + sep2.length) = Lib.join (q :: ps) sep2 := by
      rw [← List.append_assoc, ← List.length_append, List.drop_left]
    rw [hd, Nat.add_comm 1, Lib.splitK, hi]
    have hne : (((p.length : Nat) : Int) == -1) = false := by rw [beq_eq_false_iff_ne]; omega
    rw [hne]
    simp only [Bool.false_eq_true, if_false, Nat.add_zero, Int.toNat_natCast]
    rw [hd, ih, List.take_left]

theorem dig_no59 (u : Nat) : hasB (Lib.decDigits u) 59 = false := by
  unfold hasB
  rw [List.any_eq_false]
  intro c hc
  have := decDigits_digit u u (Nat.le_refl _) c hc
  simp only [eqB, beq_iff_eq]
  omega
theorem itoa_no59 (v : Int) : hasB (Lib.itoa v) 59 = false := by
  unfold Lib.itoa
  split
  · rw [hasB_cons, dig_no59]; rfl
  · exact dig_no59 _
theorem join_no {sep : List UInt8} {b : Int} (hs : hasB sep b = false) : ∀ {xs : List (List UInt8)}, (∀ x ∈ xs, hasB x b = false) → hasB (Lib.join xs sep) b = false
  | [], _ => rfl
  | [x], h => by rw [Lib.join_one]; exact h x (by simp)
  | x :: y :: xs, h => by
    have ih := join_no hs (xs := y :: xs) (fun z hz => h z (List.mem_cons_of_mem _ hz))
    rw [Lib.join_cons] at ih
    rw [Lib.join_cons, joinTail_cons, List.append_assoc, hasB_append, hasB_append, h x (by simp), hs, ih]; rfl
theorem txt_no59 (c : List Int) : hasB (txtC c) 59 = false := by
  by_cases h : c = []
  · rw [h]; decide
  · rw [txtC_ne h]
    refine join_no (by decide) fun x hx => ?_
    obtain ⟨z, -, rfl⟩ := List.mem_map.1 hx
    exact itoa_no59 z
theorem split2_cnf (vars : Int) (xss : List (List Int)) : Lib.split (cnfT vars xss) sep2 = Lib.itoa vars :: xss.map txtC := by
  refine split2_join (by simp) fun p hp => ?_
  rcases List.mem_cons.1 hp with rfl | hp
  · exact itoa_no59 _
  · obtain ⟨c, -, rfl⟩ := List.mem_map.1 hp
    exact txt_no59 c
/-- The parts at single semicolons. -/
theorem split1_join : ∀ {x : List UInt8} {xs : List (List UInt8)}, hasB x 59 = false → (∀ p ∈ xs, hasB p 59 = false) → splitP 59 (Lib.join (x :: xs) sep2) = x :: xs.map (fun p => 32 :: p)
  | x, [], h, _ => by rw [Lib.join_one]; exact splitP_none h
  | x, y :: xs, h, hs => by
    have ih := split1_join (x := 32 :: y) (xs := xs) (by rw [hasB_cons, hs y (by simp)]; rfl) (fun z hz => hs z (List.mem_cons_of_mem _ hz))
    have e : Lib.join (x :: y :: xs) sep2 = x ++ 59 :: Lib.join ((32 :: y) :: xs) sep2 := by
      rw [Lib.join_cons, joinTail_cons, Lib.join_cons, List.append_assoc]; rfl
    rw [e, splitP_some h (by decide), ih]
    simp
theorem split1_cnf (vars : Int) (xss : List (List Int)) : splitP 59 (cnfT vars xss) = Lib.itoa vars :: xss.map (fun c => 32 :: txtC c) := by
  unfold cnfT
  rw [split1_join (itoa_no59 _) (fun p hp => by obtain ⟨c, -, rfl⟩ := List.mem_map.1 hp; exact txt_no59 c), List.map_map]
  rfl

/-- The text is that of a good Cnf. -/
def IsN (s : List UInt8) (vars : Int) (xss : List (List Int)) : Prop := goodB vars xss = true ∧ cnfT vars xss = s
/-- The Cnf of a text, and whether there is one. -/
def parN (s : List UInt8) : (Int × List (List Int)) × Bool :=
  let v := (numB ((splitP 59 s).headD [])).1
  let cs := (splitP 59 s).tail.map fun p => (parC v p.tail).1
  if goodB v cs && cnfT v cs == s then ((v, cs), true) else ((0, []), false)
theorem parN_is {s : List UInt8} {v : Int} {xss : List (List Int)} (h : parN s = ((v, xss), true)) : IsN s v xss := by
  unfold parN at h
  simp only at h
  split at h
  · rename_i hq
    rw [Bool.and_eq_true, beq_iff_eq] at hq
    cases h
    exact hq
  · cases h
theorem parN_cases (s : List UInt8) : parN s = ((0, []), false) ∨ ∃ v xss, parN s = ((v, xss), true) := by
  unfold parN
  simp only
  split
  · exact .inr ⟨_, _, rfl⟩
  · exact .inl rfl
theorem goodN_parts {vars : Int} {xss : List (List Int)} (h : goodB vars xss = true) : inB vars 0 12 = true ∧ xss.length ≤ 60 ∧ ∀ c ∈ xss, clauseB vars c = true := by
  unfold goodB at h
  rw [Bool.and_eq_true, Bool.and_eq_true, decide_eq_true_eq, List.all_eq_true] at h
  exact ⟨h.1.1, h.1.2, h.2⟩
theorem goodN_mk {vars : Int} {xss : List (List Int)} (h1 : inB vars 0 12 = true) (h2 : xss.length ≤ 60) (h3 : ∀ c ∈ xss, clauseB vars c = true) : goodB vars xss = true := by
  unfold goodB
  rw [Bool.and_eq_true, Bool.and_eq_true, decide_eq_true_eq, List.all_eq_true]
  exact ⟨⟨h1, h2⟩, h3⟩
theorem is_parN {s : List UInt8} {v : Int} {xss : List (List Int)} (h : IsN s v xss) : parN s = ((v, xss), true) := by
  obtain ⟨h1, rfl⟩ := h
  obtain ⟨g1, g2, g3⟩ := goodN_parts h1
  have hv := inB_true.1 g1
  have e1 : (numB (Lib.itoa v)).1 = v := by rw [numB_itoa (by omega) (by omega)]
  have e2 : (xss.map (fun c => (32 : UInt8) :: txtC c)).map (fun p => (parC v p.tail).1) = xss := by
    rw [List.map_map]
    conv => rhs; rw [← List.map_id xss]
    refine List.map_congr_left fun c hc => ?_
    simp only [Function.comp, List.tail_cons, par_text (g3 c hc), id]
  unfold parN
  simp only [split1_cnf, List.headD_cons, List.tail_cons, e1, e2, h1, Bool.true_and, beq_self_eq_true, if_true]
theorem parN_no {s : List UInt8} (h : ∀ v xss, ¬ IsN s v xss) : parN s = ((0, []), false) := by
  rcases parN_cases s with h1 | ⟨v, xss, h1⟩
  · exact h1
  · exact absurd (parN_is h1) (h v xss)

/-- The clauses of the first k parts. -/
def PartsR (v : Int) (ps : List (List UInt8)) (k : Nat) (cs : List (List Int)) : Prop := cs = (ps.take k).map (fun p => (parC v p).1) ∧ ∀ p ∈ ps.take k, (parC v p).2 = true
theorem PartsR.nil (v : Int) (ps : List (List UInt8)) : PartsR v ps 0 [] := ⟨rfl, by simp⟩
theorem PartsR.next {v : Int} {ps : List (List UInt8)} {k : Nat} {cs : List (List Int)} {c : List Int} (h : PartsR v ps k cs) (hk : k < ps.length) (hc : parC v ps[k] = (c, true)) : PartsR v ps (k + 1) (cs ++ [c]) := by
  obtain ⟨h1, h2⟩ := h
  refine ⟨?_, fun p hp => ?_⟩
  · rw [List.take_succ_eq_append_getElem hk, List.map_append, ← h1]
    simp [hc]
  · rw [List.take_succ_eq_append_getElem hk] at hp
    rcases List.mem_append.1 hp with hp | hp
    · exact h2 p hp
    · obtain rfl : p = ps[k] := by simpa using hp
      rw [hc]
theorem PartsR.len {v : Int} {ps : List (List UInt8)} {k : Nat} {cs : List (List Int)} (h : PartsR v ps k cs) (hk : k ≤ ps.length) : cs.length = k := by
  rw [h.1, List.length_map, List.length_take]; omega
theorem PartsR.full {v : Int} {ps : List (List UInt8)} {cs : List (List Int)} (h : PartsR v ps ps.length cs) : cs.map txtC = ps ∧ ∀ c ∈ cs, clauseB v c = true := by
  obtain ⟨h1, h2⟩ := h
  rw [List.take_length] at h1 h2
  have key : ∀ p ∈ ps, txtC (parC v p).1 = p ∧ clauseB v (parC v p).1 = true := fun p hp => by
    have := h2 p hp
    obtain ⟨⟨c, q⟩, hq⟩ : ∃ r, parC v p = r := ⟨_, rfl⟩
    rw [hq] at this ⊢
    simp only at this
    subst this
    exact text_par hq
  subst h1
  refine ⟨?_, fun c hc => ?_⟩
  · rw [List.map_map]
    conv => rhs; rw [← List.map_id ps]
    exact List.map_congr_left fun p hp => (key p hp).1
  · obtain ⟨p, hp, rfl⟩ := List.mem_map.1 hc
    exact (key p hp).2

/-- The program's reading fails or succeeds as the text asks. -/
theorem isN_two {s p0 : List UInt8} {ps : List (List UInt8)} {v : Int} {xss : List (List Int)} (hs : Lib.split s sep2 = p0 :: ps) (h : IsN s v xss) : numB p0 = (v, true) ∧ ps = xss.map txtC ∧ ∀ c ∈ xss, parC v (txtC c) = (c, true) := by
  obtain ⟨h1, rfl⟩ := h
  obtain ⟨g1, g2, g3⟩ := goodN_parts h1
  have hv := inB_true.1 g1
  rw [split2_cnf] at hs
  cases hs
  exact ⟨numB_itoa (by omega) (by omega), rfl, fun c hc => par_text (g3 c hc)⟩
theorem two_num {s p0 : List UInt8} {ps : List (List UInt8)} (hs : Lib.split s sep2 = p0 :: ps) (h : (numB p0).2 = false) : parN s = ((0, []), false) :=
  parN_no fun v xss hI => by rw [(isN_two hs hI).1] at h; cases h
theorem two_part {s p0 : List UInt8} {ps : List (List UInt8)} {v : Int} (hs : Lib.split s sep2 = p0 :: ps) (hv : numB p0 = (v, true)) {k : Nat} (hk : k < ps.length) (h : (parC v ps[k]).2 = false) : parN s = ((0, []), false) :=
  parN_no fun v' xss hI => by
    obtain ⟨h1, h2, h3⟩ := isN_two hs hI
    rw [hv] at h1
    cases h1
    subst h2
    rw [List.length_map] at hk
    rw [List.getElem_map, h3 _ (List.getElem_mem hk)] at h
    cases h
theorem two_end {s p0 : List UInt8} {ps : List (List UInt8)} {v : Int} {cs : List (List Int)} (hs : Lib.split s sep2 = p0 :: ps) (hv : numB p0 = (v, true)) (h : PartsR v ps ps.length cs) : parN s = if goodB v cs then ((v, cs), true) else ((0, []), false) := by
  have hf := h.full
  cases hg : goodB v cs
  · refine parN_no fun v' xss hI => ?_
    obtain ⟨h1, h2, h3⟩ := isN_two hs hI
    rw [hv] at h1
    cases h1
    have : cs = xss := by
      rw [h.1, List.take_length, h2, List.map_map]
      conv => rhs; rw [← List.map_id xss]
      exact List.map_congr_left fun c hc => by simp [Function.comp, h3 c hc]
    rw [this, hI.1] at hg
    cases hg
  · refine is_parN ⟨hg, ?_⟩
    unfold cnfT
    have hp : Lib.itoa v = p0 := by
      have := (numB_back (p := p0) (by rw [hv])).1
      rwa [hv] at this
    rw [hf.1, hp, ← hs, join_split2]

/-- So does the reference's. -/
theorem isN_one {s p0 : List UInt8} {ps : List (List UInt8)} {v : Int} {xss : List (List Int)} (hs : splitP 59 s = p0 :: ps) (h : IsN s v xss) : numB p0 = (v, true) ∧ inB v 0 12 = true ∧ ps = xss.map (fun c => 32 :: txtC c) ∧ xss.length ≤ 60 ∧ ∀ c ∈ xss, parC v (txtC c) = (c, true) := by
  obtain ⟨h1, rfl⟩ := h
  obtain ⟨g1, g2, g3⟩ := goodN_parts h1
  have hv := inB_true.1 g1
  rw [split1_cnf] at hs
  cases hs
  exact ⟨numB_itoa (by omega) (by omega), g1, rfl, g2, fun c hc => par_text (g3 c hc)⟩
theorem one_num {s p0 : List UInt8} {ps : List (List UInt8)} (hs : splitP 59 s = p0 :: ps) (h : (numB p0).2 = false) : parN s = ((0, []), false) :=
  parN_no fun v xss hI => by rw [(isN_one hs hI).1] at h; cases h
theorem one_vars {s p0 : List UInt8} {ps : List (List UInt8)} {v : Int} (hs : splitP 59 s = p0 :: ps) (hv : numB p0 = (v, true)) (h : inB v 0 12 = false) : parN s = ((0, []), false) :=
  parN_no fun v' xss hI => by
    obtain ⟨h1, h2, -⟩ := isN_one hs hI
    rw [hv] at h1
    cases h1
    rw [h2] at h; cases h
theorem one_long {s p0 : List UInt8} {ps : List (List UInt8)} (hs : splitP 59 s = p0 :: ps) (h : 60 < ps.length) : parN s = ((0, []), false) :=
  parN_no fun v' xss hI => by
    obtain ⟨-, -, h2, h3, -⟩ := isN_one hs hI
    rw [h2, List.length_map] at h
    omega
theorem one_head {s p0 : List UInt8} {ps : List (List UInt8)} (hs : splitP 59 s = p0 :: ps) {k : Nat} (hk : k < ps.length) (h : ps[k].length < 2 ∨ ∀ r, ps[k] ≠ 32 :: r) : parN s = ((0, []), false) :=
  parN_no fun v' xss hI => by
    obtain ⟨-, -, h2, -, h3⟩ := isN_one hs hI
    subst h2
    rw [List.length_map] at hk
    rw [List.getElem_map] at h
    rcases h with h | h
    · rw [List.length_cons] at h
      have h0 : txtC xss[k] = [] := List.length_eq_zero_iff.1 (by omega)
      by_cases hc : xss[k] = []
      · exact absurd h0 (by rw [hc]; decide)
      · have h4 := h3 _ (List.getElem_mem hk)
        rw [h0] at h4
        unfold parC at h4
        rw [if_neg (by decide)] at h4
        have : numsOk (splitP 32 []) = false := by decide
        rw [this] at h4
        simp at h4
    · exact h _ rfl
theorem one_part {s p0 : List UInt8} {ps : List (List UInt8)} {v : Int} (hs : splitP 59 s = p0 :: ps) (hv : numB p0 = (v, true)) {k : Nat} (hk : k < ps.length) (h : (parC v ps[k].tail).2 = false) : parN s = ((0, []), false) :=
  parN_no fun v' xss hI => by
    obtain ⟨h1, -, h2, -, h3⟩ := isN_one hs hI
    rw [hv] at h1
    cases h1
    subst h2
    rw [List.length_map] at hk
    rw [List.getElem_map, List.tail_cons, h3 _ (List.getElem_mem hk)] at h
    cases h
theorem one_end {s p0 : List UInt8} {ps : List (List UInt8)} {v : Int} {cs : List (List Int)} (hs : splitP 59 s = p0 :: ps) (hv : numB p0 = (v, true)) (hin : inB v 0 12 = true) (hl : ps.length ≤ 60) (h : PartsR v (ps.map List.tail) ps.length cs) : parN s = if cnfT v cs == s then ((v, cs), true) else ((0, []), false) := by
  have hlen : ps.length = (ps.map List.tail).length := (List.length_map _).symm
  rw [hlen] at h
  have hf := h.full
  have hcl : cs.length ≤ 60 := by rw [h.len (Nat.le_refl _)]; omega
  cases hg : cnfT v cs == s
  · refine parN_no fun v' xss hI => ?_
    obtain ⟨h1, -, h2, -, h3⟩ := isN_one hs hI
    rw [hv] at h1
    cases h1
    have : cs = xss := by
      rw [h.1, List.take_length, h2, List.map_map, List.map_map]
      conv => rhs; rw [← List.map_id xss]
      exact List.map_congr_left fun c hc => by simp [Function.comp, h3 c hc]
    rw [this, hI.2] at hg
    simp at hg
  · exact is_parN ⟨goodN_mk hin hcl hf.2, beq_iff_eq.1 hg⟩
end Go.Proofs.YtahbepajeplcmaaGreatDoor

/- Contracts: strings.Builder, as this program has it. -/
namespace Go.Proofs.YtahbepajeplcmaaGreatDoor
open Go.RowKit

theorem sizeBld : (Tryz.prog.info? 90).map (·.size) = some 2 := by kernel_rfl
theorem liesBld : liesAt Tryz.prog Tryz.prog.depth 90 (2 / Tryz.prog.cellsOf 90) 0 90 1 = true := by kernel_rfl
theorem infoU8 : (Tryz.prog.info? 5).map (fun i => (i.zero, i.size, i.bytes)) = some (some (.int .u8 0), 1, 1) := by kernel_rfl
/-- A builder that holds bytes. -/
abbrev Bld (w0 : World) (b : Nat) (l : List UInt8) (w : World) : Prop := Lib.IsBuilder 90 5 w0.heap.size b (Lib.byteCells l) w

set_option maxHeartbeats 1000000 in
set_option maxRecDepth 100000 in
theorem copyCheck_used (b : Nat) (w : World) (h0 : w.cell? ⟨b, 0, none⟩ = some (.pointer (some ⟨b, 0, none⟩))) :
    Calls Tryz.prog 135 #[.pointer (some ⟨b, 0, none⟩)] w fun e w' => e = .returned (.tuple #[]) ∧ w' = w := by
  obtain ⟨j, hj, _⟩ := Option.map_eq_some_iff.1 sizeBld
  go_enter Tryz.func135, Tryz.ntmps135
  go_wp2
  rw [Lib.run_neq_ptr_same w _ Tryz.underlying88 hj]
  go_wp2
  exact bodyPost_end (v := .tuple #[]) (by simp [results, Tryz.results135, go_sem]) rfl ⟨rfl, rfl⟩

set_option maxHeartbeats 1000000 in
set_option maxRecDepth 100000 in
theorem copyCheck_fresh (b : Nat) (w : World) (h0 : w.cell? ⟨b, 0, none⟩ = some (.pointer none)) (hsh : w.shape? b = some (90, 2)) (hfz : w.frozen? ⟨b, 0, none⟩ = false) :
    Calls Tryz.prog 135 #[.pointer (some ⟨b, 0, none⟩)] w fun e w' => e = .returned (.tuple #[]) ∧ w' = w.setCell ⟨b, 0, none⟩ (.pointer (some ⟨b, 0, none⟩)) := by
  obtain ⟨j, hj, hjs⟩ := Option.map_eq_some_iff.1 sizeBld
  go_enter Tryz.func135, Tryz.ntmps135
  go_wp2
  rw [Lib.run_to_unsafe w ⟨b, 0, none⟩ Tryz.underlying88 Tryz.underlying152 hj (by rw [hjs]; decide) hsh (Nat.zero_lt_succ 1)]
  simp only [Result.andThen]
  rw [Oper.upon_value]
  go_wp2
  rw [run_callFunc_extern Tryz.func170 (by kernel_rfl) (by kernel_rfl) (by kernel_rfl) (e := Extern.AbiNoEscape.same) (by kernel_rfl)]
  rw [Lib.run_noEscape]
  simp only [Result.andThen]
  rw [Oper.upon_value]
  go_wp2
  rw [Lib.run_from_unsafe w ⟨b, 0, none⟩ Tryz.underlying152 Tryz.underlying88 hj hsh liesBld]
  simp only [Result.andThen]
  rw [Oper.upon_value]
  go_wp2
  exact bodyPost_end (v := .tuple #[]) (by simp [results, Tryz.results135, go_sem]) rfl ⟨rfl, rfl⟩

theorem copyCheck_any (B b : Nat) (bs : List Value) (w : World) (h : Lib.IsBuilder 90 5 B b bs w) :
    Calls Tryz.prog 135 #[.pointer (some ⟨b, 0, none⟩)] w fun e w' => e = .returned (.tuple #[]) ∧ (Lib.BuilderAt 90 5 B b (.pointer (some ⟨b, 0, none⟩)) bs w' ∧ Below B w w') := by
  rcases h with h | h
  · refine (copyCheck_fresh b w h.cell0 h.shape h.frozen0).mono ?_
    rintro e w' ⟨rfl, rfl⟩
    exact ⟨rfl, h.used _, (Below.refl B w).setCell (p := ⟨b, 0, none⟩) h.1 _⟩
  · refine (copyCheck_used b w h.cell0).mono ?_
    rintro e w' ⟨rfl, rfl⟩
    exact ⟨rfl, h, Below.refl B _⟩

set_option maxHeartbeats 2000000 in
set_option maxRecDepth 100000 in
theorem writeString_any (B b : Nat) (bs : List Value) (s : ByteArray) (w : World) (h : Lib.IsBuilder 90 5 B b bs w) (hlen : bs.length + s.size ≤ 140737488355328) (hBw : B ≤ w.heap.size) :
    Calls Tryz.prog 61 #[.pointer (some ⟨b, 0, none⟩), .string s] w fun e w' => e = .returned (.tuple #[.int .i64 s.size, .nilIface]) ∧ (Lib.BuilderAt 90 5 B b (.pointer (some ⟨b, 0, none⟩)) (bs ++ Lib.strCells s) w' ∧ Below B w w') := by
  obtain ⟨i0, hi, hz0, hz1, hz2⟩ := info_parts infoU8
  go_enter Tryz.func61, Tryz.ntmps61
  go_wp2_with (go_at_call 135; refine (copyCheck_any B b bs _ h).mono ?_)
  rintro e w1 ⟨rfl, h1, hb1⟩
  obtain ⟨hB, v, hbk, hown, hne⟩ := h1
  have c0 : w1.cell? ⟨b, 0, none⟩ = some (.pointer (some ⟨b, 0, none⟩)) := by rw [Lib.cell_of_heap hbk]; rfl
  have c1 : w1.cell? ⟨b, 1, none⟩ = some v := by rw [Lib.cell_of_heap hbk]; rfl
  go_wp2_with (at_builtin; refine Lib.wpList_append_own_string _ rfl _ _ 22 9 rfl B 5 i0 Tryz.underlying22 Tryz.underlying9 hi hz0 hz1 hz2 _ _ _ rfl hown s rfl ?c3 ?c4 ?c5 ?_)
  case c3 => unfold maxLen; omega
  case c4 => omega
  case c5 => have := hb1.size; omega
  intro v' w2 hown' hgrow _
  have hlt : b < w1.heap.size := by
    rcases Nat.lt_or_ge b w1.heap.size with h' | h'
    · exact h'
    · simp [Array.getElem?_eq_none h'] at hbk
  have hb2 : w2.heap[b]? = some (.cells #[.pointer (some ⟨b, 0, none⟩), v] 90 (0, 0)) := by
    rw [hgrow.block b hlt (fun e => hne e.symm)]
    exact hbk
  have d0 : w2.cell? ⟨b, 0, none⟩ = some (.pointer (some ⟨b, 0, none⟩)) := by rw [Lib.cell_of_heap hb2]; rfl
  have d1 : w2.cell? ⟨b, 1, none⟩ = some v := by rw [Lib.cell_of_heap hb2]; rfl
  have f1 : w2.frozen? ⟨b, 1, none⟩ = false := Lib.frozen_of_heap hb2 1
  obtain ⟨ao, n', cap, rfl⟩ : ∃ ao n' cap, v' = .slice ao n' cap := by
    rcases hown'.2 with ⟨hv, _⟩ | ⟨g, cap, cur, hv, _⟩
    · exact ⟨_, _, _, hv⟩
    · exact ⟨_, _, _, hv⟩
  go_wp2
  go_ret2
  refine ⟨rfl, ?_, ?_⟩
  · exact Lib.BuilderAt.put (T := 90) (e := 5) hB hb2 (bs' := bs ++ Lib.strCells s) (by simpa [Lib.strCells_length] using hown') (by decide)
  · exact (hb1.grown hgrow (by have := hb1.size; omega) (fun k hk => (hown.lt k hk).1)).setCell (p := ⟨b, 1, none⟩) hB _
end Go.Proofs.YtahbepajeplcmaaGreatDoor
