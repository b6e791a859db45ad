/- Lemmas and contracts for a law, put together out of several texts: GtCb PnN PlB NumT TxA TxB TxC TxD CurR. -/
import Derived.Test.YtkhopkonddgicaaMg6
import Derived.Test.YtkhopkonddgicaaMg4
import Derived.Test.YtkhopkonddgicaaMg1
import Derived.Test.YtkhopkonddgicaaMg2
import Derived.Lib.QuietBelow
import Derived.BigQuiet
import Derived.Test.YtkhopkonddgicaaMg3
/- Contract: the circuit of a Cnf, in the reference. -/
namespace Go.Proofs.Ytkhopkonddgicaa
open Go.RowKit

set_option maxRecDepth 100000 in
set_option maxHeartbeats 16000000 in
theorem l6OfCnf_any (n : Nat) (v : Value) (xss : List (List Int)) (F : List Nat) (w : World) (hx : (Ty.slice Ty.int).row false w v xss F) (h1 : goodB n xss = true) :
    Calls Try.prog 41 #[.agg #[.int .i64 n, v]] w fun e w' => ∃ u, e = .returned u ∧ Sp w w' [Own 41 3 u (circR n xss).length ((circR n xss).flatMap gtEnc)] := by
  obtain ⟨i0, hi0, hz0, hz1, hz2⟩ := info_parts infoGt
  obtain ⟨A, cap, rfl, hI⟩ := cls_row hx
  have hg := good_cnf h1
  have hn : n ≤ 12 := by omega
  have hm := hg.2.1
  have hcl : Hid (∀ c ∈ xss, c.length ≤ 1000) := fun c hc => (hg.2.2.2 c hc).2
  have hlit := Lib.hid (good_lits h1)
  have S0 := (Sp.start w).alloc_box #[.int .i64 n, .slice A xss.length cap] 26
  have hI2 := Lib.hid hI
  have hn0 : (0 : Int) ≤ n := by omega
  replace S0 := Lib.hid S0
  obtain ⟨m, hme⟩ : ∃ m, xss.length = m := ⟨_, rfl⟩
  rw [hme] at S0 hm
  clear hx hI hg
  rw [hme]
  replace hme := Lib.hid hme
  have S1 := (S0.out.own_made 41 3).pick [1, 0] rfl
  simp only [World.size_alloc] at S1
  replace S1 := Lib.hid S1
  clear S0
  go_enter Try.func41, Try.ntmps41
  go_wp2_with fail
  go_loopw [4, 3] (fun i o wr => ∃ (j : Nat) (ov : Value), j ≤ n ∧ i = .int .i64 ((j : Int) + 1) ∧ o = ov ∧ Hid (CiSp w n A m cap (base1 j) j ov wr)) (fun i _ _ => n + 1 - (intOf i).toNat)
  case atStart => exact ⟨0, _, Nat.zero_le _, rfl, rfl, S1⟩
  case round =>
    obtain ⟨j, ov, hj, rfl, rfl, hS⟩ := hrel
    clear S1
    have c0 := hS.out.cell (i := 0) rfl (o := 0) rfl
    obtain ⟨aO, cO, rfl⟩ := own_slice (hS.out.own (i := 1) rfl)
    by_cases hlt : j < n
    · have hji : ((j : Int) + 1) ≤ n := by omega
      have hw : IntKind.i64.wrap ((j : Int) + 1 + 1) = (j : Int) + 1 + 1 := IntWalk.i64_in _ (by omega)
      have S3 := hS.out.alloc_box #[.int .i64 1, .int .i64 ((j : Int) + 1), .int .i64 0] 41
      (try simp only [World.size_setCell] at S3)
      have kG0 := S3.cell (i := 0) rfl (o := 0) rfl
      have kG1 := S3.cell (i := 0) rfl (o := 1) rfl
      have kG2 := S3.cell (i := 0) rfl (o := 2) rfl
      replace S3 := Lib.hid S3
      clear hS
      go_wp2_with (at_builtin; refine wpList_append_src rfl _ _ rfl Try.underlying28 hi0 hz0 hz1 hz2 rfl (by decide) _ j _ rfl (S3.out.own (i := 2) rfl) _ 1 1 [.int .i64 1, .int .i64 ((j : Int) + 1), .int .i64 0] rfl (Src.threeG kG0 kG1 kG2) (by simp [Value.oneCell']) ?c3 ?c4 ?_)
      case c3 => unfold maxLen; omega
      case c4 => omega
      intro vE wE hownE hgE hatE
      have S4 := (S3.out.own_push (i := 2) rfl (bb _) hownE hgE (by simpa using hatE)).tail
      simp only [List.set_cons_zero, List.set_cons_succ] at S4
      obtain ⟨aE, cE, rfl⟩ := own_slice hownE
      have hS := Lib.hid S4
      clear S3 S4 kG0 kG1 kG2 hownE hgE hatE
      clear c0
      go_wp2_with fail
      go_roundw
      case rel =>
        refine ⟨j + 1, _, by omega, by first | rfl | simp, rfl, ?_⟩
        unfold Hid CiSp
        rw [base1_succ, flat_snoc]
        exact hS.out
      case measure => simp [intOf]; omega
    · obtain rfl : n = j := by omega
      have hji : ¬ ((n : Int) + 1) ≤ n := by omega
      go_wp2_with fail
      clear hji hlt
      go_loopw [5, 3] (fun i o wr => ∃ (j : Nat) (ov : Value), j ≤ n ∧ i = .int .i64 ((j : Int) + 1) ∧ o = ov ∧ Hid (CiSp w n A m cap (base2 n j) (n + j) ov wr)) (fun i _ _ => n + 1 - (intOf i).toNat)
      case atStart => exact ⟨0, _, Nat.zero_le _, rfl, rfl, by unfold Hid; rw [base2_zero]; exact hS.out⟩
      case round =>
        obtain ⟨j, ov, hj, rfl, rfl, hS⟩ := hrel
        clear c0
        have c0 := hS.out.cell (i := 0) rfl (o := 0) rfl
        obtain ⟨aO, cO, rfl⟩ := own_slice (hS.out.own (i := 1) rfl)
        by_cases hlt : j < n
        · have hji : ((j : Int) + 1) ≤ n := by omega
          have hw : IntKind.i64.wrap ((j : Int) + 1 + 1) = (j : Int) + 1 + 1 := IntWalk.i64_in _ (by omega)
          have hw2 : IntKind.i64.wrap ((j : Int) + 1 - 1) = (j : Int) := by rw [show (j : Int) + 1 - 1 = j by omega]; exact IntWalk.i64_in _ (by omega)
          have S3 := hS.out.alloc_box #[.int .i64 4, .int .i64 (j : Int), .int .i64 0] 41
          (try simp only [World.size_setCell] at S3)
          have kG0 := S3.cell (i := 0) rfl (o := 0) rfl
          have kG1 := S3.cell (i := 0) rfl (o := 1) rfl
          have kG2 := S3.cell (i := 0) rfl (o := 2) rfl
          replace S3 := Lib.hid S3
          clear hS
          go_wp2_with (at_builtin; refine wpList_append_src rfl _ _ rfl Try.underlying28 hi0 hz0 hz1 hz2 rfl (by decide) _ (n+j) _ rfl (S3.out.own (i := 2) rfl) _ 1 1 [.int .i64 4, .int .i64 (j : Int), .int .i64 0] rfl (Src.threeG kG0 kG1 kG2) (by simp [Value.oneCell']) ?c3 ?c4 ?_)
          case c3 => unfold maxLen; omega
          case c4 => omega
          intro vE wE hownE hgE hatE
          have S4 := (S3.out.own_push (i := 2) rfl (bb _) hownE hgE (by simpa using hatE)).tail
          simp only [List.set_cons_zero, List.set_cons_succ] at S4
          obtain ⟨aE, cE, rfl⟩ := own_slice hownE
          have hS := Lib.hid S4
          clear S3 S4 kG0 kG1 kG2 hownE hgE hatE
          clear c0
          go_wp2_with fail
          go_roundw
          case rel =>
            refine ⟨j + 1, _, by omega, by first | rfl | simp, rfl, ?_⟩
            unfold Hid CiSp
            rw [base2_succ, flat_snoc]
            exact hS.out
          case measure => simp [intOf]; omega
        · obtain rfl : n = j := by omega
          have hji : ¬ ((n : Int) + 1) ≤ n := by omega
          go_wp2_with fail
          refine (l6Constant_any true _).mono ?_
          rintro e w2 ⟨rfl, hb2⟩
          replace hS := Lib.hid (hS.out.grow hb2)
          clear hb2
          go_wp2_with fail
          refine (l6Constant_any false _).mono ?_
          rintro e w3 ⟨rfl, hb3⟩
          replace hS := Lib.hid (hS.out.grow hb3)
          clear hb3
          have S3 := hS.out.alloc_box #[.int .i64 2, .int .i64 0, .int .i64 0, .int .i64 3, .int .i64 0, .int .i64 0] 41
          have kG0 := S3.cell (i := 0) rfl (o := 0) rfl
          have kG1 := S3.cell (i := 0) rfl (o := 1) rfl
          have kG2 := S3.cell (i := 0) rfl (o := 2) rfl
          have kG3 := S3.cell (i := 0) rfl (o := 3) rfl
          have kG4 := S3.cell (i := 0) rfl (o := 4) rfl
          have kG5 := S3.cell (i := 0) rfl (o := 5) rfl
          replace S3 := Lib.hid S3
          clear hS
          go_wp2_with (at_builtin; refine wpList_append_src rfl _ _ rfl Try.underlying28 hi0 hz0 hz1 hz2 rfl (by decide) _ (n+n) _ rfl (S3.out.own (i := 2) rfl) _ 2 2 [.int .i64 2, .int .i64 0, .int .i64 0, .int .i64 3, .int .i64 0, .int .i64 0] rfl (Src.sixG kG0 kG1 kG2 kG3 kG4 kG5) (by simp [Value.oneCell']) ?c3 ?c4 ?_)
          case c3 => unfold maxLen; omega
          case c4 => omega
          intro vE wE hownE hgE hatE
          have S4 := (S3.out.own_push (i := 2) rfl (bb _) hownE hgE (by simpa using hatE)).tail
          simp only [List.set_cons_zero, List.set_cons_succ] at S4
          obtain ⟨aE, cE, rfl⟩ := own_slice hownE
          clear S3 hownE hgE hatE kG0 kG1 kG2 kG3 kG4 kG5 hji hlt c0
          have hlen0 : Hid ((cnfG n (xss.take 0)).1.length = n + n + 2) := by
            unfold Hid
            show (baseG n).length = _
            rw [base_len]
            omega
          have hS : Hid (CiSp w n A m cap (cnfG n (xss.take 0)).1 (n + n + 2) (.slice aE (n + n + 2) cE) wE) := by
            unfold Hid CiSp
            show Sp w wE [_, Own _ _ _ _ ((baseG n).flatMap gtEnc)]
            rw [base_eq, List.flatMap_append]
            exact S4
          clear S4
          have c0 := hS.out.cell (i := 0) rfl (o := 0) rfl
          have hm1 : IntKind.i64.wrap (2 * (n : Int)) = 2 * (n : Int) := IntWalk.i64_in _ (by omega)
          have hm2 : IntKind.i64.wrap (2 * (n : Int) + 1) = 2 * (n : Int) + 1 := IntWalk.i64_in _ (by omega)
          go_wp2_with fail
          go_region
          replace hS := Lib.hid hS.out.drew
          clear c0 hm1 hm2
          go_wp2_with fail
          go_loopw [8, 3, 6] (fun i o cn wr => ∃ (j N : Nat) (ov : Value) (z : Int), j ≤ m ∧ i = .int .i64 (j : Int) ∧ o = ov ∧ cn = .int .i64 z ∧ N ≤ 26 + 1001 * j ∧ Hid ((cnfG n (xss.take j)).1.length = N) ∧ Hid (z = ((cnfG n (xss.take j)).2 : Nat)) ∧ Hid (CiSp w n A m cap (cnfG n (xss.take j)).1 N ov wr)) (fun i _ _ _ => m - (intOf i).toNat)
          case atStart => exact ⟨0, n + n + 2, _, _, Nat.zero_le _, rfl, rfl, rfl, by omega, hlen0, by unfold Hid; show _ = ((2 * n : Nat) : Int); omega, hS⟩
          case round =>
            obtain ⟨j, N, ov, z, hj, rfl, rfl, rfl, hN, hNl, hz, hS⟩ := hrel
            clear hlen0
            obtain ⟨aO, cO, rfl⟩ := own_slice (hS.out.own (i := 1) rfl)
            by_cases hlt : j < m
            · have hji : (j : Int) < m := by omega
              have hjx : j < xss.length := by rw [hme.out]; exact hlt
              obtain ⟨b, off, B, cB, e, hc, hT⟩ := hI2.out.at_ j hjx
              cases e
              have hcl1 := hcl.out _ (List.getElem_mem hjx)
              have hli1 := hlit.out _ (List.getElem_mem hjx)
              have htk := cnfG_take (n := n) hjx
              generalize xss[j] = c at hc hT hcl1 hli1 htk
              have hcw := (hS.out.below.cell (p := ⟨b, off + j, none⟩) (World.block_lt_of_cell? _ _ hc)).trans hc
              have hzc := hz.out
              generalize cnfG n (xss.take j) = s at hNl hS htk hzc
              clear hz
              obtain ⟨M, zn⟩ := s
              dsimp only at hNl hS hzc
              obtain ⟨L, hL⟩ : ∃ L, c.length = L := ⟨_, rfl⟩
              rw [hL] at hcl1 hcw
              replace hL := Lib.hid hL
              replace hT := Lib.hid hT
              replace hli1 := Lib.hid hli1
              replace htk := Lib.hid htk
              replace hzc := Lib.hid hzc
              have c1 := hS.out.cell (i := 0) rfl (o := 1) rfl
              go_wp2_with fail
              clear hcw c1
              have hl0 : Hid (((c.take 0).foldl (litG n) (M, 2 * n + 1)).1.length = N + 0) := hNl
              go_loopw [10, 3, 9] (fun i o cn wo => ∃ (q : Nat) (ov2 : Value) (z2 : Int), q ≤ L ∧ i = .int .i64 (q : Int) ∧ o = ov2 ∧ cn = .int .i64 z2 ∧ Hid (((c.take q).foldl (litG n) (M, 2 * n + 1)).1.length = N + q) ∧ Hid (z2 = (((c.take q).foldl (litG n) (M, 2 * n + 1)).2 : Nat)) ∧ Hid (CiSp w n (some ⟨b, off, none⟩) m cap ((c.take q).foldl (litG n) (M, 2 * n + 1)).1 (N + q) ov2 wo)) (fun i _ _ _ => L - (intOf i).toNat)
              case atStart => exact ⟨0, _, _, Nat.zero_le _, rfl, rfl, rfl, hl0, by unfold Hid; show _ = ((2 * n + 1 : Nat) : Int); omega, hS⟩
              case round =>
                rename World => wo
                obtain ⟨q, ov2, z2, hq, rfl, rfl, rfl, hl3, hz3, hS3⟩ := hrel
                clear hS hl0
                have hcw := (hS3.out.below.cell (p := ⟨b, off + j, none⟩) (World.block_lt_of_cell? _ _ hc)).trans hc
                rw [hL.out] at hcw
                have c1 := hS3.out.cell (i := 0) rfl (o := 1) rfl
                obtain ⟨aP, cP, rfl⟩ := own_slice (hS3.out.own (i := 1) rfl)
                by_cases hlt2 : q < L
                · have hqi : (q : Int) < L := by omega
                  have hqc : q < c.length := by rw [hL.out]; exact hlt2
                  obtain ⟨bb', ob, e, hd⟩ := hT.out.at_ q hqc
                  cases e
                  have hdw := (hS3.out.below.cell (p := ⟨bb', ob + q, none⟩) (World.block_lt_of_cell? _ _ hd)).trans hd
                  have hln := hli1.out _ (List.getElem_mem hqc)
                  have hst := lits_take (n := n) (M, 2 * n + 1) hqc
                  unfold LitN at hln
                  generalize c[q] = l at hdw hln hst
                  clear hd
                  generalize (c.take q).foldl (litG n) (M, 2 * n + 1) = t at hl3 hz3 hS3 hst
                  obtain ⟨T, zt⟩ := t
                  dsimp only at hl3 hz3 hS3
                  have hst2 : Hid ((c.take (q + 1)).foldl (litG n) (M, 2 * n + 1) = (T ++ [⟨6, (zt : Nat), litIx n l⟩], N + q)) := by
                    unfold Hid
                    rw [hst]
                    unfold litG
                    rw [hl3.out]
                  clear hst
                  have hw1 : IntKind.i64.wrap (l - 1) = l - 1 := IntWalk.i64_in _ (by omega)
                  have hw2 : IntKind.i64.wrap ((n : Int) - l) = (n : Int) - l := IntWalk.i64_in _ (by omega)
                  have hw3 : IntKind.i64.wrap ((n : Int) - l - 1) = (n : Int) - l - 1 := IntWalk.i64_in _ (by omega)
                  have c0 := hS3.out.cell (i := 0) rfl (o := 0) rfl
                  by_cases hneg : l < 0
                  · have hix : Hid (litIx n l = (n : Int) - l - 1) := by unfold Hid litIx; rw [if_pos hneg]
                    have S3 := hS3.out.alloc_box #[.int .i64 6, .int .i64 z2, .int .i64 ((n : Int) - l - 1)] 41
                    (try simp only [World.size_setCell] at S3)
                    have kG0 := S3.cell (i := 0) rfl (o := 0) rfl
                    have kG1 := S3.cell (i := 0) rfl (o := 1) rfl
                    have kG2 := S3.cell (i := 0) rfl (o := 2) rfl
                    replace S3 := Lib.hid S3
                    clear hS3
                    go_wp2_with (at_builtin; refine wpList_append_src rfl _ _ rfl Try.underlying28 hi0 hz0 hz1 hz2 rfl (by decide) _ (N+q) _ rfl (S3.out.own (i := 2) rfl) _ 1 1 [.int .i64 6, .int .i64 z2, .int .i64 ((n : Int) - l - 1)] rfl (Src.threeG kG0 kG1 kG2) (by simp [Value.oneCell']) ?c3 ?c4 ?_)
                    case c3 => unfold maxLen; omega
                    case c4 => omega
                    intro vE wE hownE hgE hatE
                    have S4 := (S3.out.own_push (i := 2) rfl (bb _) hownE hgE (by simpa using hatE)).tail
                    simp only [List.set_cons_zero, List.set_cons_succ] at S4
                    obtain ⟨aE, cE, rfl⟩ := own_slice hownE
                    have hS3 := Lib.hid S4
                    clear S3 S4 kG0 kG1 kG2 hownE hgE hatE
                    clear c0 hdw
                    go_wp2_with fail
                    go_roundw
                    case rel =>
                      refine ⟨q + 1, _, _, by omega, by first | rfl | simp, rfl, rfl, ?_, ?_, ?_⟩
                      · unfold Hid; rw [hst2.out, List.length_append, hl3.out]; rfl
                      · unfold Hid; rw [hst2.out]; omega
                      · unfold Hid CiSp; rw [hst2.out]; dsimp only; rw [flat_snoc, hix.out, ← hz3.out]; exact hS3.out
                    case measure => simp [intOf]; omega
                  · have hix : Hid (litIx n l = l - 1) := by unfold Hid litIx; rw [if_neg hneg]
                    have hneg2 : 0 ≤ l := by omega
                    have S3 := hS3.out.alloc_box #[.int .i64 6, .int .i64 z2, .int .i64 (l - 1)] 41
                    (try simp only [World.size_setCell] at S3)
                    have kG0 := S3.cell (i := 0) rfl (o := 0) rfl
                    have kG1 := S3.cell (i := 0) rfl (o := 1) rfl
                    have kG2 := S3.cell (i := 0) rfl (o := 2) rfl
                    replace S3 := Lib.hid S3
                    clear hS3
                    go_wp2_with (at_builtin; refine wpList_append_src rfl _ _ rfl Try.underlying28 hi0 hz0 hz1 hz2 rfl (by decide) _ (N+q) _ rfl (S3.out.own (i := 2) rfl) _ 1 1 [.int .i64 6, .int .i64 z2, .int .i64 (l - 1)] rfl (Src.threeG kG0 kG1 kG2) (by simp [Value.oneCell']) ?c3 ?c4 ?_)
                    case c3 => unfold maxLen; omega
                    case c4 => omega
                    intro vE wE hownE hgE hatE
                    have S4 := (S3.out.own_push (i := 2) rfl (bb _) hownE hgE (by simpa using hatE)).tail
                    simp only [List.set_cons_zero, List.set_cons_succ] at S4
                    obtain ⟨aE, cE, rfl⟩ := own_slice hownE
                    have hS3 := Lib.hid S4
                    clear S3 S4 kG0 kG1 kG2 hownE hgE hatE
                    clear c0 hdw
                    go_wp2_with fail
                    go_roundw
                    case rel =>
                      refine ⟨q + 1, _, _, by omega, by first | rfl | simp, rfl, rfl, ?_, ?_, ?_⟩
                      · unfold Hid; rw [hst2.out, List.length_append, hl3.out]; rfl
                      · unfold Hid; rw [hst2.out]; omega
                      · unfold Hid CiSp; rw [hst2.out]; dsimp only; rw [flat_snoc, hix.out, ← hz3.out]; exact hS3.out
                    case measure => simp [intOf]; omega
                · obtain rfl : L = q := by omega
                  have hcl2 : Hid ((c.take L).foldl (litG n) (M, 2 * n + 1) = c.foldl (litG n) (M, 2 * n + 1)) := by unfold Hid; rw [List.take_of_length_le (by rw [hL.out]; exact Nat.le_refl _)]
                  rw [hcl2.out] at hl3 hz3 hS3
                  have hst2 : Hid (cnfG n (xss.take (j + 1)) = ((c.foldl (litG n) (M, 2 * n + 1)).1 ++ [⟨5, (zn : Nat), ((c.foldl (litG n) (M, 2 * n + 1)).2 : Nat)⟩], N + L)) := by
                    unfold Hid
                    rw [htk.out]
                    unfold clG
                    rw [hl3.out]
                  clear hcl2 htk hT hli1
                  generalize c.foldl (litG n) (M, 2 * n + 1) = t at hl3 hz3 hS3 hst2
                  obtain ⟨T, zt⟩ := t
                  dsimp only at hl3 hz3 hS3 hst2
                  have S3 := hS3.out.alloc_box #[.int .i64 5, .int .i64 z, .int .i64 z2] 41
                  (try simp only [World.size_setCell] at S3)
                  have kG0 := S3.cell (i := 0) rfl (o := 0) rfl
                  have kG1 := S3.cell (i := 0) rfl (o := 1) rfl
                  have kG2 := S3.cell (i := 0) rfl (o := 2) rfl
                  replace S3 := Lib.hid S3
                  clear hS3
                  go_wp2_with (at_builtin; refine wpList_append_src rfl _ _ rfl Try.underlying28 hi0 hz0 hz1 hz2 rfl (by decide) _ (N+L) _ rfl (S3.out.own (i := 2) rfl) _ 1 1 [.int .i64 5, .int .i64 z, .int .i64 z2] rfl (Src.threeG kG0 kG1 kG2) (by simp [Value.oneCell']) ?c3 ?c4 ?_)
                  case c3 => unfold maxLen; omega
                  case c4 => omega
                  intro vE wE hownE hgE hatE
                  have S4 := (S3.out.own_push (i := 2) rfl (bb _) hownE hgE (by simpa using hatE)).tail
                  simp only [List.set_cons_zero, List.set_cons_succ] at S4
                  obtain ⟨aE, cE, rfl⟩ := own_slice hownE
                  have hS3 := Lib.hid S4
                  clear S3 S4 kG0 kG1 kG2 hownE hgE hatE
                  go_wp2_with fail
                  go_roundw
                  case rel =>
                    refine ⟨j + 1, N + L + 1, _, _, by omega, by first | rfl | simp, rfl, rfl, by omega, ?_, ?_, ?_⟩
                    · unfold Hid; rw [hst2.out, List.length_append, hl3.out]; rfl
                    · unfold Hid; rw [hst2.out]; omega
                    · unfold Hid CiSp; rw [hst2.out]; dsimp only; rw [flat_snoc, ← hz3.out, ← hzc.out]; exact hS3.out
                  case measure => simp [intOf]; omega
            · obtain rfl : m = j := by omega
              rw [show xss.take m = xss from List.take_of_length_le (by rw [hme.out]; exact Nat.le_refl _)] at hNl hS
              have hji : ¬ (m : Int) < m := by omega
              have c1 := hS.out.cell (i := 0) rfl (o := 1) rfl
              clear hz hlit hcl hI2
              by_cases h0 : m = 0
              · subst h0
                obtain rfl : xss = [] := List.length_eq_zero_iff.1 hme.out
                have hR : Hid (circR n [] = (cnfG n []).1 ++ [⟨2, 0, 0⟩]) := rfl
                generalize (cnfG n []).1 = R at hNl hS hR
                go_wp2_with fail
                refine (l6Constant_any true _).mono ?_
                rintro e w4 ⟨rfl, hb4⟩
                replace hS := Lib.hid (hS.out.grow hb4)
                clear hb4 c1
                have S3 := hS.out.alloc_box #[.int .i64 2, .int .i64 0, .int .i64 0] 41
                (try simp only [World.size_setCell] at S3)
                have kG0 := S3.cell (i := 0) rfl (o := 0) rfl
                have kG1 := S3.cell (i := 0) rfl (o := 1) rfl
                have kG2 := S3.cell (i := 0) rfl (o := 2) rfl
                replace S3 := Lib.hid S3
                clear hS
                go_wp2_with (at_builtin; refine wpList_append_src rfl _ _ rfl Try.underlying28 hi0 hz0 hz1 hz2 rfl (by decide) _ N _ rfl (S3.out.own (i := 2) rfl) _ 1 1 [.int .i64 2, .int .i64 0, .int .i64 0] rfl (Src.threeG kG0 kG1 kG2) (by simp [Value.oneCell']) ?c3 ?c4 ?_)
                case c3 => unfold maxLen; omega
                case c4 => omega
                intro vE wE hownE hgE hatE
                have S4 := (S3.out.own_push (i := 2) rfl (bb _) hownE hgE (by simpa using hatE)).tail
                simp only [List.set_cons_zero, List.set_cons_succ] at S4
                obtain ⟨aE, cE, rfl⟩ := own_slice hownE
                have hS := Lib.hid S4
                clear S3 S4 kG0 kG1 kG2 hownE hgE hatE
                have hf : Sp w wE [Own 41 3 (.slice aE (N + 1) cE) (R ++ [(⟨2, 0, 0⟩ : Gt)]).length ((R ++ [(⟨2, 0, 0⟩ : Gt)]).flatMap gtEnc)] := by
                  rw [List.length_append, hNl.out, flat_snoc]
                  exact hS.out.pick [1] rfl
                replace hf := Lib.hid hf
                clear hS
                go_wp2_with fail
                go_ret
                rw [hR.out]
                exact ⟨_, rfl, hf.out⟩
              · have hR : Hid (circR n xss = (cnfG n xss).1) := by
                  unfold Hid circR
                  rw [if_neg (fun e => h0 (by have := hme.out; rw [e] at this; exact this.symm)), List.append_nil]
                generalize (cnfG n xss).1 = R at hNl hS hR
                have hm0 : ((m : Int) == 0) = false := beq_eq_false_iff_ne.2 (by omega)
                have hm1 : decide ((m : Int) = 0) = false := decide_eq_false (by omega)
                have hf : Sp w wr [Own 41 3 (.slice aO N cO) R.length (R.flatMap gtEnc)] := by rw [hNl.out]; exact hS.out.pick [1] rfl
                replace hf := Lib.hid hf
                go_wp2_with fail
                go_ret
                rw [hR.out]
                exact ⟨_, rfl, hf.out⟩

set_option maxRecDepth 100000 in
set_option maxHeartbeats 8000000 in
theorem specCircuitOf_any (vars : Int) (v : Value) (xss : List (List Int)) (F : List Nat) (w : World) (hx : (Ty.slice Ty.int).row false w v xss F) :
    Calls Try.prog 9 #[.agg #[.int .i64 vars, v]] w (GOut w (goodB vars xss && decide ((circR vars.toNat xss).length ≤ 200)) (circR vars.toNat xss)) := by
  obtain ⟨A, cap, rfl, hI⟩ := cls_row hx
  have S0 := (Sp.start w).alloc_box #[.int .i64 vars, .slice A xss.length cap] 26
  have hcall0 := l2Good_any vars _ xss F _ (Ty.row_below hx S0.below (Ty.row_lt hx))
  cases hq : goodB vars xss
  · rw [hq] at hcall0
    rw [Bool.false_and]
    have S1 := S0
    replace hcall0 := Lib.hid hcall0
    replace S0 := Lib.hid S0
    clear hx hI
    go_enter Try.func9, Try.ntmps9
    go_wp2_with fail
    refine hcall0.out.mono ?_
    rintro e w1 ⟨rfl, hb1⟩
    have S2 := Lib.hid ((S0.out.grow hb1).own_made 41 3)
    go_wp2_with fail
    go_ret2
    exact ⟨_, rfl, S2.out.pick [0] rfl⟩
  · rw [hq] at hcall0
    rw [Bool.true_and]
    obtain ⟨n, rfl⟩ : ∃ n : Nat, vars = n := ⟨vars.toNat, by have := good_cnf hq; omega⟩
    rw [Int.toNat_natCast]
    have hsp := Lib.hid (fun W (h : Below w.heap.size w W) => l6OfCnf_any n _ xss F W (Ty.row_below hx h (Ty.row_lt hx)) hq)
    replace hcall0 := Lib.hid hcall0
    replace S0 := Lib.hid S0
    clear hx hI
    go_enter Try.func9, Try.ntmps9
    go_wp2_with fail
    refine hcall0.out.mono ?_
    rintro e w1 ⟨rfl, hb1⟩
    have S1 := S0.out.grow hb1
    have c0 := S1.cell (i := 0) rfl (o := 0) rfl
    have c1 := S1.cell (i := 0) rfl (o := 1) rfl
    have hs2 := Lib.hid (hsp.out _ S1.below)
    replace S1 := Lib.hid (Sp.of_below S1.below)
    clear hsp S0 hcall0 hb1
    go_wp2_with fail
    refine hs2.out.mono ?_
    rintro e w2 ⟨u, rfl, S3⟩
    obtain ⟨aO, cO, rfl⟩ := own_slice (S3.own (i := 0) rfl)
    have S4 := Lib.hid (S1.out.seq S3)
    clear hs2 S1 S3 c0 c1
    generalize circR n xss = R at *
    by_cases hbig : R.length ≤ 200
    · have hbi : ¬ (200 : Int) < R.length := by omega
      have hd : Hid (decide (R.length ≤ 200) = true) := decide_eq_true hbig
      go_wp2_with fail
      go_ret2
      rw [hd.out]
      exact GOut.yes (S4.out.pick [0] rfl)
    · have hbi : (200 : Int) < R.length := by omega
      have hd : Hid (decide (R.length ≤ 200) = false) := decide_eq_false hbig
      have S5 := Lib.hid ((Sp.of_below S4.out.below).own_made 41 3)
      go_wp2_with fail
      go_ret2
      rw [hd.out]
      exact ⟨_, rfl, S5.out⟩

theorem implCircuitOf_any (vars : Int) (v : Value) (xss : List (List Int)) (F : List Nat) (w : World) (hx : (Ty.slice Ty.int).row false w v xss F) :
    Calls Try.prog 8 #[.agg #[.int .i64 vars, v]] w (GOut w (goodB vars xss && decide ((circR vars.toNat xss).length ≤ 200)) (circR vars.toNat xss)) := by
  cases hq : goodB vars xss
  · rw [Bool.false_and]
    exact circuitOf_no vars v xss F w hx hq
  · rw [Bool.true_and]
    obtain ⟨n, rfl⟩ : ∃ n : Nat, vars = n := ⟨vars.toNat, by have := good_cnf hq; omega⟩
    rw [Int.toNat_natCast]
    exact circuitOf_any n v xss F w hx hq
end Go.Proofs.Ytkhopkonddgicaa

/- Contracts: numbers of variables and literals that are drawn, up to thirteen. -/
namespace Go.Proofs.Ytkhopkonddgicaa
open Go.RowKit

set_option maxRecDepth 100000 in
set_option maxHeartbeats 4000000 in
theorem cur_vars6 (A g : Nat) (ca : Option Addr) (cl cc : Nat) (w : World) (h : CurIs A g ca cl cc w) (hA : A ≤ 80000000) :
    Calls Try.prog 68 #[.pointer (some ⟨g, 0, none⟩)] w (CurPost (IntIn (-1) 13) (A + 4) g ca cl cc w) := by
  have hg := h.lt
  have S0 := Lib.hid ((CS.start h).alloc_box #[.int .i64 1, .int .i64 2, .int .i64 2, .int .i64 3, .int .i64 3, .int .i64 4, .int .i64 5, .int .i64 0, .int .i64 12, .int .i64 (-1), .int .i64 13] 3)
  go_enter Try.func68, Try.ntmps68
  go_wp2_with fail
  refine (cur_pick_at (lo := 0) (hi := 23) S0.out.cur (by omega) (by omega) (by omega) (by omega) (by omega)).mono ?_
  rintro e w1 ⟨_, ⟨x, hx0, hx1, rfl⟩, rfl, hi1, hc1⟩
  have S1 := Lib.hid (S0.out.turn hi1 hc1)
  have hcell : ∀ j, j < 11 → ∃ x, (-1 : Int) ≤ x ∧ x ≤ 13 ∧ w1.cell? ⟨w.heap.size, 0 + j, none⟩ = some (.int .i64 x) := fun j hj => by
    rw [Nat.zero_add]
    match j, hj with
    | 0, _ => exact ⟨_, by decide, by decide, S1.out.cell (i := 0) rfl rfl⟩
    | 1, _ => exact ⟨_, by decide, by decide, S1.out.cell (i := 0) rfl rfl⟩
    | 2, _ => exact ⟨_, by decide, by decide, S1.out.cell (i := 0) rfl rfl⟩
    | 3, _ => exact ⟨_, by decide, by decide, S1.out.cell (i := 0) rfl rfl⟩
    | 4, _ => exact ⟨_, by decide, by decide, S1.out.cell (i := 0) rfl rfl⟩
    | 5, _ => exact ⟨_, by decide, by decide, S1.out.cell (i := 0) rfl rfl⟩
    | 6, _ => exact ⟨_, by decide, by decide, S1.out.cell (i := 0) rfl rfl⟩
    | 7, _ => exact ⟨_, by decide, by decide, S1.out.cell (i := 0) rfl rfl⟩
    | 8, _ => exact ⟨_, by decide, by decide, S1.out.cell (i := 0) rfl rfl⟩
    | 9, _ => exact ⟨_, by decide, by decide, S1.out.cell (i := 0) rfl rfl⟩
    | 10, _ => exact ⟨_, by decide, by decide, S1.out.cell (i := 0) rfl rfl⟩
  replace hcell := Lib.hid hcell
  clear S0 hc1
  obtain ⟨k, hk, hkx⟩ : ∃ k : Nat, k ≤ 2 ∧ x.tdiv 11 = (k : Int) := ⟨(x / 11).toNat, by omega, by rw [Int.tdiv_eq_ediv_of_nonneg hx0]; omega⟩
  have hq : ∀ m, 9 ≤ m → m ≤ 11 → Calls Try.prog 73 #[.pointer (some ⟨g, 0, none⟩), .slice (some ⟨w.heap.size, 0, none⟩) m 11] w1 (CurPost (IntIn (-1) 13) (A + 2 + 2) g ca cl cc w1) := fun m h1 h2 =>
    cur_among (-1) 13 w.heap.size 0 m 11 (A + 2) g ca cl cc w1 hi1 (by omega) (by omega) (by omega) (fun j hj => hcell.out j (by omega)) (by omega)
  replace hq := Lib.hid hq
  clear hi1
  have hk3 : k = 0 ∨ k = 1 ∨ k = 2 := by omega
  rcases hk3 with rfl | rfl | rfl
  all_goals
    go_wp2_with fail
    refine (hq.out _ (by decide) (by decide)).mono ?_
    rintro e w2 ⟨_, ⟨z, hz0, hz1, rfl⟩, rfl, hi2, hc2⟩
    have S2 := S1.out.turn hi2 hc2
    have hC := S2.chg
    clear S1 S2 hc2 hq hcell
    go_wp2_with fail
    go_ret
    exact ⟨_, ⟨z, hz0, hz1, rfl⟩, rfl, hi2, hC⟩

theorem lit_three13 {w1 : World} {vars : Int} {g A cl cc : Nat} {ca : Option Addr} (h : CurIs A g ca cl cc w1) (hv : -1 ≤ vars ∧ vars ≤ 13) (hA : A ≤ 80000000) :
    Calls Try.prog 73 #[.pointer (some ⟨g, 0, none⟩), .slice (some ⟨w1.heap.size, 0, none⟩) 3 3] (w1.alloc (.cells #[.int .i64 0, .int .i64 (vars + 1), .int .i64 (-vars - 1)] 3)) (CurPost (IntIn (-14) 14) (A + 2) g ca cl cc (w1.alloc (.cells #[.int .i64 0, .int .i64 (vars + 1), .int .i64 (-vars - 1)] 3))) := by
  have hg := h.lt
  refine cur_among (-14) 14 w1.heap.size 0 3 3 A g ca cl cc _ (h.grow (bal (bb _) _)) (by omega) (by decide) (by decide) (ints_new rfl fun j hj => ?_) (by omega)
  match j, hj with
  | 0, _ => exact ⟨_, rfl, by decide, by decide⟩
  | 1, _ => exact ⟨_, rfl, by omega, by omega⟩
  | 2, _ => exact ⟨_, rfl, by omega, by omega⟩

set_option maxRecDepth 100000 in
set_option maxHeartbeats 4000000 in
theorem cur_lit13 (vars : Int) (hv : -1 ≤ vars ∧ vars ≤ 13) (A g : Nat) (ca : Option Addr) (cl cc : Nat) (w : World) (h : CurIs A g ca cl cc w) (hA : A ≤ 70000000) :
    Calls Try.prog 125 #[.pointer (some ⟨g, 0, none⟩), .int .i64 vars] w (CurPost (IntIn (-14) 14) (A + 8) g ca cl cc w) := by
  have hg := h.lt
  have w1' : IntKind.i64.wrap (vars + 1) = vars + 1 := IntWalk.i64_in _ (by omega)
  have w2' : IntKind.i64.wrap (-vars) = -vars := IntWalk.i64_in _ (by omega)
  have w3' : IntKind.i64.wrap (-vars - 1) = -vars - 1 := IntWalk.i64_in _ (by omega)
  have S0 := Lib.hid (CS.start h)
  by_cases hlt : vars < 1
  · have hcall := Lib.hid (lit_three13 h hv (by omega))
    go_enter Try.func125, Try.ntmps125
    go_wp2_with fail
    refine hcall.out.mono ?_
    rintro e w2 ⟨_, ⟨z, hz0, hz1, rfl⟩, rfl, hi2, hc2⟩
    have hC := ((S0.out.alloc _).turn hi2 hc2).chg
    clear S0 hc2 hcall
    go_wp2_with fail
    go_ret
    exact ⟨_, ⟨z, hz0, hz1, rfl⟩, rfl, hi2.mono (by omega), hC⟩
  · go_enter Try.func125, Try.ntmps125
    go_wp2_with fail
    refine (cur_one 40 A g ca cl cc w h (by omega) (by omega)).mono ?_
    rintro e w1 ⟨_, ⟨q, rfl⟩, rfl, hi1, hc1⟩
    have S1 := Lib.hid (S0.out.turn hi1 hc1)
    have hg1 := hi1.lt
    clear S0 hc1
    cases q
    · go_wp2_with fail
      refine (cur_pick_at (lo := 0) (hi := vars - 1) hi1 (by omega) (by omega) (by omega) (by omega) (by omega)).mono ?_
      rintro e w2 ⟨_, ⟨x, hx0, hx1, rfl⟩, rfl, hi2, hc2⟩
      have S2 := Lib.hid (S1.out.turn hi2 hc2)
      have w4 : IntKind.i64.wrap (1 + x) = 1 + x := IntWalk.i64_in _ (by omega)
      have w5 : IntKind.i64.wrap (-(1 + x)) = -(1 + x) := IntWalk.i64_in _ (by omega)
      clear S1 hc2
      go_wp2_with fail
      refine (cur_one 2 _ g ca cl cc _ hi2 (by omega) (by omega)).mono ?_
      rintro e w3 ⟨_, ⟨q, rfl⟩, rfl, hi3, hc3⟩
      have hC := (S2.out.turn hi3 hc3).chg
      clear S2 hc3
      cases q
      · go_wp2_with fail
        go_ret
        exact ⟨_, ⟨1 + x, by omega, by omega, rfl⟩, rfl, hi3.mono (by omega), hC⟩
      · go_wp2_with fail
        go_ret
        exact ⟨_, ⟨-(1 + x), by omega, by omega, rfl⟩, rfl, hi3.mono (by omega), hC⟩
    · have hcall := Lib.hid (lit_three13 hi1 hv (by omega))
      go_wp2_with fail
      refine hcall.out.mono ?_
      rintro e w2 ⟨_, ⟨z, hz0, hz1, rfl⟩, rfl, hi2, hc2⟩
      have hC := ((S1.out.alloc _).turn hi2 hc2).chg
      clear S1 hc2 hcall
      go_wp2_with fail
      go_ret
      exact ⟨_, ⟨z, hz0, hz1, rfl⟩, rfl, hi2.mono (by omega), hC⟩

theorem among_four {w1 : World} {vars : Int} {g A cl cc : Nat} {ca : Option Addr} (h : CurIs A g ca cl cc w1) (hv : -1 ≤ vars ∧ vars ≤ 13) (hA : A ≤ 80000000) :
    Calls Try.prog 73 #[.pointer (some ⟨g, 0, none⟩), .slice (some ⟨w1.heap.size, 0, none⟩) 4 4] (w1.alloc (.cells #[.int .i64 0, .int .i64 (vars + 1), .int .i64 (-vars - 1), .int .i64 (-9223372036854775808)] 3)) (CurPost (IntIn (-9223372036854775808) 14) (A + 2) g ca cl cc (w1.alloc (.cells #[.int .i64 0, .int .i64 (vars + 1), .int .i64 (-vars - 1), .int .i64 (-9223372036854775808)] 3))) := by
  have hg := h.lt
  refine cur_among (-9223372036854775808) 14 w1.heap.size 0 4 4 A g ca cl cc _ (h.grow (bal (bb _) _)) (by omega) (by decide) (by decide) (ints_new rfl fun j hj => ?_) (by omega)
  match j, hj with
  | 0, _ => exact ⟨_, rfl, by decide, by decide⟩
  | 1, _ => exact ⟨_, rfl, by omega, by omega⟩
  | 2, _ => exact ⟨_, rfl, by omega, by omega⟩
  | 3, _ => exact ⟨_, rfl, by decide, by decide⟩
def AllI (c : List Int) : Prop := ∀ x ∈ c, I64 x
theorem rowPost_of {n : Nat} {R : List Int → Prop} {A A0 g : Nat} {ca : Option Addr} {cl cc : Nat} {w w' : World} {ps : List Asn} {i : Nat} {B : Option Addr} {cap : Nat} {c : List Int} (h : CS w g ca cl cc A0 w' ps)
    (hi : ps[i]? = some (Own 3 1 (.slice B c.length cap) c.length (c.map (.int .i64)))) (hl : c.length ≤ n) (hR : R c) (hA : A0 ≤ A) : RowPost n R A g ca cl cc w (.returned (.slice B c.length cap)) w' :=
  ⟨_, c, rfl, h.owns_end hi, hl, hR, h.cur.mono hA, h.chg⟩

set_option maxRecDepth 100000 in
set_option maxHeartbeats 8000000 in
theorem cur_anyClause (vars : Int) (hv : -1 ≤ vars ∧ vars ≤ 13) (A g : Nat) (ca : Option Addr) (cl cc : Nat) (w : World) (h : CurIs A g ca cl cc w) (hA : A ≤ 50000000) :
    Calls Try.prog 106 #[.pointer (some ⟨g, 0, none⟩), .int .i64 vars] w (RowPost 5 AllI (A + 80) g ca cl cc w) := by
  have hg := h.lt
  have S0 := Lib.hid (CS.start h)
  have w1' : IntKind.i64.wrap (vars + 1) = vars + 1 := IntWalk.i64_in _ (by omega)
  have w2' : IntKind.i64.wrap (-vars) = -vars := IntWalk.i64_in _ (by omega)
  have w3' : IntKind.i64.wrap (-vars - 1) = -vars - 1 := IntWalk.i64_in _ (by omega)
  go_enter Try.func106, Try.ntmps106
  go_wp2_with fail
  refine (cur_clause vars hv A g ca cl cc w h (by omega)).mono ?_
  rintro e w1 ⟨v, c, rfl, ho, hl, hW, hi1, hc1⟩
  have hne := owns_ge ho
  obtain ⟨B, cap, rfl⟩ := own_slice ho
  have hI := Lib.hid (hW.i64 (by decide))
  have S1 : Hid (CS w g ca cl cc (A + 60) w1 [Own 3 1 (.slice B c.length cap) c.length (c.map (.int .i64))]) := by
    refine ⟨⟨A, h⟩, hi1, hc1, _, ⟨(Value.slice B c.length cap).ownBlock.toList, [], by rw [List.append_nil], by simp, ⟨rfl, owns_zero ho⟩, rfl⟩, fun b hb => ?_⟩
    exact hne b (by simpa using hb)
  clear ho hW hi1 hc1 hne S0
  have hcur := Lib.hid S1.out.cur
  go_wp2_with fail
  refine (cur_pick_at (lo := 0) (hi := 31) hcur.out (by omega) (by omega) (by omega) (by omega) (by omega)).mono ?_
  rintro e w2 ⟨_, ⟨x, hx0, hx1, rfl⟩, rfl, hi2, hc2⟩
  have S2 := Lib.hid (S1.out.turn hi2 hc2)
  clear S1 hcur hi2 hc2
  have hx5 : x = 0 ∨ x = 1 ∨ x = 2 ∨ 2 < x := by omega
  rcases hx5 with rfl | rfl | rfl | hx5
  · have hlit := Lib.hid (cur_lit13 vars hv _ g ca cl cc _ S2.out.cur (by omega))
    obtain ⟨i0, hi0, hz0, hz1, hz2⟩ := info_parts infoInt
    go_wp2_with fail
    refine hlit.out.mono ?_
    rintro e w3 ⟨_, ⟨z, hz3, hz4, rfl⟩, rfl, hi3, hc3⟩
    have S3 := (S2.out.turn hi3 hc3).alloc_box #[.int .i64 z] 3
    have kB := S3.cell (i := 0) rfl (o := 0) rfl
    replace S3 := Lib.hid S3
    clear S2 hlit hi3 hc3
    go_wp2_with (at_builtin; refine wpList_append_src rfl _ _ rfl Try.underlying45 hi0 hz0 hz1 hz2 rfl (by decide) _ _ _ rfl (S3.out.own (i := 1) rfl) _ 1 1 [.int .i64 z] rfl (Src.one kB) (by simp [Value.oneCell']) ?c3 ?c4 ?_)
    case c3 => unfold maxLen; omega
    case c4 => omega
    intro vY wY hownY hgY hatY
    have S4 := (S3.out.own_push (i := 1) rfl (bb _) hownY hgY (by simpa using hatY)).tail
    obtain ⟨aY, cY, rfl⟩ := own_slice hownY
    have hlen : c.length + 1 = (c ++ [z]).length := by simp
    have hI2 : AllI (c ++ [z]) := fun y hy => by
      rcases List.mem_append.1 hy with hy | hy
      · exact hI.out y hy
      · obtain rfl : y = z := by simpa using hy
        unfold I64; omega
    have S5 : CS w g ca cl cc (A + 60 + 10 + 8) wY [Own 3 1 (.slice aY (c ++ [z]).length cY) (c ++ [z]).length ((c ++ [z]).map (.int .i64))] := by
      rw [← hlen, List.map_append]; exact S4.mono (by omega)
    have hl2 : (c ++ [z]).length ≤ 5 := by omega
    rw [hlen]
    generalize c ++ [z] = c2 at *
    have hP := Lib.hid (rowPost_of (n := 5) (R := AllI) (A := A + 80) S5 (i := 0) rfl hl2 hI2 (by omega))
    clear S3 S4 S5 hlen hI2 hl2 kB hownY hgY hatY
    go_wp2_with fail
    go_ret
    exact hP.out
  · by_cases hl0 : 0 < c.length
    · have d0 : decide ((0 : Int) < (c.length : Int)) = true := decide_eq_true (by omega)
      have hcall := Lib.hid (among_four S2.out.cur hv (by omega))
      go_wp2_with fail
      refine hcall.out.mono ?_
      rintro e w3 ⟨_, ⟨z, hz3, hz4, rfl⟩, rfl, hi3, hc3⟩
      have S3 := (S2.out.alloc _).turn hi3 hc3
      obtain ⟨gx, cap', cur, e1, -, hh, -, -, -, ht⟩ := own_block (S3.own (i := 0) rfl) hl0
      simp only [Value.slice.injEq] at e1
      obtain ⟨rfl, -, rfl⟩ := e1
      have hcx := (own_at hh ht (o := 0) (by omega)).1
      have hfx := (own_at hh ht (o := 0) (by omega)).2
      have S4 := S3.own_put (i := 0) rfl (.int .i64 z) (o := 0) (by omega)
      have hI2 : AllI (c.set 0 z) := fun y hy => by
        rcases List.mem_or_eq_of_mem_set hy with hy | rfl
        · exact hI.out y hy
        · unfold I64; omega
      have hlen : (c.set 0 z).length = c.length := by simp
      have S5 : CS w g ca cl cc (A + 80) (w3.setCell ⟨gx, 0, none⟩ (.int .i64 z)) [Own 3 1 (.slice (some ⟨gx, 0, none⟩) (c.set 0 z).length cap) (c.set 0 z).length ((c.set 0 z).map (.int .i64))] := by
        rw [hlen, List.map_set]; exact S4.mono (by omega)
      have hP := rowPost_of (n := 5) (R := AllI) (A := A + 80) S5 (i := 0) rfl (by omega) hI2 (by omega)
      rw [hlen] at hP
      replace hP := Lib.hid hP
      have hcx' : ∃ u, w3.cell? ⟨gx, 0, none⟩ = some u := by
        rw [hcx]
        exact ⟨_, List.getElem?_eq_getElem (by simp; omega)⟩
      obtain ⟨u, hu⟩ := hcx'
      clear S2 S3 S4 S5 hI2 hh ht hcx hi3 hc3 hcall hlen
      go_wp2_with fail
      go_ret
      exact hP.out
    · have d0 : decide ((0 : Int) < (c.length : Int)) = false := decide_eq_false (by omega)
      have hP := Lib.hid (rowPost_of (n := 5) (R := AllI) (A := A + 80) S2.out (i := 0) rfl (by omega) hI.out (by omega))
      clear S2
      go_wp2_with fail
      go_ret
      exact hP.out
  · by_cases hl0 : 1 < c.length
    · have d0 : decide ((1 : Int) < (c.length : Int)) = true := decide_eq_true (by omega)
      obtain ⟨gx, cap', cur, e1, -, hh, -, -, -, ht⟩ := own_block (S2.out.own (i := 0) rfl) (by omega)
      simp only [Value.slice.injEq] at e1
      obtain ⟨rfl, -, rfl⟩ := e1
      obtain ⟨x0, hx0'⟩ : ∃ z, (c.map (Value.int .i64))[0]? = some (.int .i64 z) ∧ c[0]? = some z := ⟨c[0], by rw [List.getElem?_map, List.getElem?_eq_getElem]; rfl, List.getElem?_eq_getElem _⟩
      obtain ⟨x1, hx1'⟩ : ∃ z, (c.map (Value.int .i64))[1]? = some (.int .i64 z) ∧ c[1]? = some z := ⟨c[1], by rw [List.getElem?_map, List.getElem?_eq_getElem]; rfl, List.getElem?_eq_getElem _⟩
      have k0 := (own_at hh ht (o := 0) (by omega)).1.trans hx0'.1
      have k1 := (own_at hh ht (o := 1) (by omega)).1.trans hx1'.1
      have f0 := (own_at hh ht (o := 0) (by omega)).2
      have f1 := (own_at hh ht (o := 1) (by omega)).2
      have S3 := S2.out.own_put (i := 0) rfl (.int .i64 x1) (o := 0) (by omega)
      have S4 := S3.own_put (i := 0) rfl (.int .i64 x0) (o := 1) (by omega)
      have hI2 : AllI ((c.set 0 x1).set 1 x0) := fun y hy => by
        rcases List.mem_or_eq_of_mem_set hy with hy | rfl
        · rcases List.mem_or_eq_of_mem_set hy with hy | rfl
          · exact hI.out y hy
          · exact hI.out _ (List.mem_of_getElem? hx1'.2)
        · exact hI.out _ (List.mem_of_getElem? hx0'.2)
      have hlen : ((c.set 0 x1).set 1 x0).length = c.length := by simp
      have S5 : CS w g ca cl cc (A + 80) ((w2.setCell ⟨gx, 0, none⟩ (.int .i64 x1)).setCell ⟨gx, 1, none⟩ (.int .i64 x0)) [Own 3 1 (.slice (some ⟨gx, 0, none⟩) ((c.set 0 x1).set 1 x0).length cap) ((c.set 0 x1).set 1 x0).length (((c.set 0 x1).set 1 x0).map (.int .i64))] := by
        rw [hlen, List.map_set, List.map_set]; exact S4.mono (by omega)
      have hP := rowPost_of (n := 5) (R := AllI) (A := A + 80) S5 (i := 0) rfl (by omega) hI2 (by omega)
      rw [hlen] at hP
      replace hP := Lib.hid hP
      have hI64a : I64 x0 := hI.out _ (List.mem_of_getElem? hx0'.2)
      have hI64b : I64 x1 := hI.out _ (List.mem_of_getElem? hx1'.2)
      clear S2 S3 S4 S5 hI2 hh ht hlen hx0' hx1'
      go_wp2_with fail
      go_ret
      exact hP.out
    · have d0 : decide ((1 : Int) < (c.length : Int)) = false := decide_eq_false (by omega)
      have hP := Lib.hid (rowPost_of (n := 5) (R := AllI) (A := A + 80) S2.out (i := 0) rfl (by omega) hI.out (by omega))
      clear S2
      go_wp2_with fail
      go_ret
      exact hP.out
  · have x0 : (x == 0) = false := by simp; omega
    have x1 : (x == 1) = false := by simp; omega
    have x2 : (x == 2) = false := by simp; omega
    have hP := Lib.hid (rowPost_of (n := 5) (R := AllI) (A := A + 80) S2.out (i := 0) rfl (by omega) hI.out (by omega))
    clear S2
    go_wp2_with fail
    go_ret
    exact hP.out
end Go.Proofs.Ytkhopkonddgicaa

/- Plain facts: decimals, checksums, sealed strings, splitting. No program in sight. -/
namespace Go.Proofs.Ytkhopkonddgicaa

theorem decDigits_big {u : Nat} (h : ¬ u < 10) : Lib.decDigits u = Lib.decDigits (u / 10) ++ [UInt8.ofNat (48 + u % 10)] := by rw [Lib.decDigits, dif_neg h]
theorem itoa_nat (u : Nat) : Lib.itoa u = Lib.decDigits u := by simp [Lib.itoa, Int.not_lt.2 (Int.natCast_nonneg u)]
theorem itoa_neg (u : Nat) (h : 0 < u) : Lib.itoa (-(u : Int)) = 45 :: Lib.decDigits u := by
  rw [Lib.itoa, if_pos (by omega)]; congr 2; omega
theorem digit_at : ∀ k : Nat, k < 10 → (ByteArray.mk #[48, 49, 50, 51, 52, 53, 54, 55, 56, 57]).extract k (k + 1) = ms [UInt8.ofNat (48 + k)] := by
  intro k hk
  apply bl_inj
  rw [bl_extract, bl_ms]
  match k, hk with
  | 0, _ => rfl
  | 1, _ => rfl
  | 2, _ => rfl
  | 3, _ => rfl
  | 4, _ => rfl
  | 5, _ => rfl
  | 6, _ => rfl
  | 7, _ => rfl
  | 8, _ => rfl
  | 9, _ => rfl
theorem decDigits_ne (u : Nat) : Lib.decDigits u ≠ [] := by
  by_cases h : u < 10
  · rw [Lib.decDigits, dif_pos h]; simp
  · rw [decDigits_big h]; simp
theorem decDigits_len : ∀ (k u : Nat), u < 10 ^ (k + 1) → (Lib.decDigits u).length ≤ k + 1
  | 0, u, h => by rw [Lib.decDigits, dif_pos (by simpa using h)]; simp
  | k + 1, u, h => by
    by_cases h1 : u < 10
    · rw [Lib.decDigits, dif_pos h1]; simp
    · rw [decDigits_big h1, List.length_append]
      have := decDigits_len k (u / 10) (by rw [Nat.pow_succ] at h; omega)
      simp; omega
theorem decDigits_digit : ∀ (n u : Nat), u ≤ n → ∀ c ∈ Lib.decDigits u, 48 ≤ c.toNat ∧ c.toNat ≤ 57
  | n, u, hn => by
    intro c hc
    by_cases h1 : u < 10
    · rw [Lib.decDigits, dif_pos h1] at hc
      simp at hc; subst hc
      simp; omega
    · rw [decDigits_big h1] at hc
      rcases List.mem_append.1 hc with hc | hc
      · cases n with
        | zero => omega
        | succ n => exact decDigits_digit n (u / 10) (by omega) c hc
      · simp at hc; subst hc
        simp; omega
termination_by n => n

/-- The checksum. -/
def sumB (l : List UInt8) : Int := l.foldl (fun h c => (41 * h + c.toNat + 1) % 999979) 7
theorem sumB_snoc (l : List UInt8) (c : UInt8) : sumB (l ++ [c]) = (41 * sumB l + c.toNat + 1) % 999979 := by simp [sumB]
theorem sumB_nil : sumB [] = 7 := rfl
theorem sumB_range (l : List UInt8) : 0 ≤ sumB l ∧ sumB l < 999979 := by
  rcases List.eq_nil_or_concat l with rfl | ⟨l', c, rfl⟩
  · exact ⟨by decide, by decide⟩
  · rw [List.concat_eq_append, sumB_snoc]; omega
/-- The sealed string. -/
def sealB (l : List UInt8) : List UInt8 := l ++ 35 :: Lib.itoa (sumB l)
theorem itoa_len {n : Int} (h0 : 0 ≤ n) (h : n < 1000000) : (Lib.itoa n).length ≤ 6 := by
  obtain ⟨u, rfl⟩ := Int.eq_ofNat_of_zero_le h0
  rw [itoa_nat]
  exact decDigits_len 5 u (by omega)
theorem sealB_length (l : List UInt8) : (sealB l).length ≤ l.length + 7 := by
  have := sumB_range l
  have := itoa_len this.1 (by omega)
  simp [sealB]; omega
end Go.Proofs.Ytkhopkonddgicaa

/- Contract: the decimal of a number, in the reference. -/
namespace Go.Proofs.Ytkhopkonddgicaa
open Go.RowKit

theorem ret_str {s t : ByteArray} (h : s = t) : Ending.returned (.string s) = .returned (.string t) := by rw [h]

/-- One decimal digit. -/
def dgB (n : Int) : List UInt8 := [UInt8.ofNat (48 + n.toNat)]
theorem dgB_length (n : Int) : (dgB n).length = 1 := rfl

theorem digit_int (n : Int) (h0 : 0 ≤ n) (h : n < 10) : (ByteArray.mk #[48, 49, 50, 51, 52, 53, 54, 55, 56, 57]).extract n.toNat (n + 1).toNat = ms (dgB n) := by
  unfold dgB
  rw [show (n + 1).toNat = n.toNat + 1 by omega]
  exact digit_at _ (by omega)

set_option maxHeartbeats 400000 in
theorem l1Num_nat (k : Nat) : ∀ (n : Int) (w : World), 0 ≤ n → n ≤ 1000000000000 → n.toNat ≤ k →
    Calls Try.prog 153 #[.int .i64 n] w fun e w' => e = .returned (.string (ms (Lib.decDigits n.toNat))) ∧ Below w.heap.size w w' := by
  induction k with
  | zero =>
    intro n w h0 hb hk
    have h : n < 10 := by omega
    go_enter Try.func153, Try.ntmps153
    go_wp2_with fail
    go_ret
    exact ⟨ret_str (by rw [Lib.decDigits, dif_pos (by omega)]; exact digit_int n h0 h), bb _⟩
  | succ k ih =>
    intro n w h0 hb hk
    by_cases h : n < 10
    · go_enter Try.func153, Try.ntmps153
      go_wp2_with fail
      go_ret
      exact ⟨ret_str (by rw [Lib.decDigits, dif_pos (by omega)]; exact digit_int n h0 h), bb _⟩
    · have hl : (Lib.decDigits (n / 10).toNat).length ≤ 13 := decDigits_len 12 _ (by omega)
      have hm1 : 0 ≤ n % 10 := by omega
      have hm2 : n % 10 < 10 := by omega
      have e4 := digit_int (n % 10) hm1 hm2
      have e5 := fun w => run_add (P := Try.prog) w (ms (Lib.decDigits (n / 10).toNat)) (ms (dgB (n % 10))) (by rw [ms_size, ms_size, dgB_length]; omega)
      have e6 : Hid (bl (ms (Lib.decDigits (n / 10).toNat)) ++ bl (ms (dgB (n % 10))) = Lib.decDigits n.toNat) := by
        rw [bl_ms, bl_ms, decDigits_big (u := n.toNat) (by omega)]
        unfold Hid dgB
        rw [show n.toNat / 10 = (n / 10).toNat by omega, show n.toNat % 10 = (n % 10).toNat by omega]
      have q1 : 0 ≤ n / 10 := by omega
      have q2 : n / 10 ≤ 1000000000000 := by omega
      have q3 : (n / 10).toNat ≤ k := by omega
      have e1 : IntKind.i64.wrap (n.tdiv 10) = n / 10 := by rw [Int.tdiv_eq_ediv_of_nonneg h0]; exact IntWalk.i64_in _ (by omega)
      have e2 : IntKind.i64.wrap (n.tmod 10) = n % 10 := by rw [Int.tmod_eq_emod_of_nonneg h0]; exact IntWalk.i64_in _ (by clear e1; omega)
      have e3 : IntKind.i64.wrap (n % 10 + 1) = n % 10 + 1 := IntWalk.i64_in _ (by clear e1 e2; omega)
      go_enter Try.func153, Try.ntmps153
      go_wp2_with fail
      refine wp_region_quiet_below (by kernel_rfl) (by kernel_rfl) ?_
      repeat (any_goals (first | go_big_quiet_step ((go_at_call 153; exact Calls.regrown_of (ih (n / 10) _ q1 q2 q3))) | quiet_step ((go_at_call 153; exact Calls.regrown_of (ih (n / 10) _ q1 q2 q3)))))
      refine wpQuiet_nil ?_
      rintro w1 ⟨p, rfl⟩
      go_wp2_with fail
      go_ret
      exact ⟨ret_str (congrArg ms e6.out), below_regrown _ _ _⟩

theorem l1Num_pos (n : Int) (w : World) (h0 : 0 ≤ n) (h1 : n ≤ 1000000000000) :
    Calls Try.prog 153 #[.int .i64 n] w fun e w' => e = .returned (.string (ms (Lib.itoa n))) ∧ Below w.heap.size w w' := by
  have e : Lib.itoa n = Lib.decDigits n.toNat := by rw [Lib.itoa, if_neg (by omega)]
  rw [e]
  exact l1Num_nat n.toNat n w h0 h1 (Nat.le_refl _)

set_option maxHeartbeats 400000 in
theorem l1Num_any (n : Int) (w : World) (h0 : -1000000000000 ≤ n) (h1 : n ≤ 1000000000000) :
    Calls Try.prog 153 #[.int .i64 n] w fun e w' => e = .returned (.string (ms (Lib.itoa n))) ∧ Below w.heap.size w w' := by
  by_cases hn : n < 0
  · have hl : (Lib.itoa (-n)).length ≤ 13 := by
      rw [Lib.itoa, if_neg (by omega)]; exact decDigits_len 12 _ (by omega)
    have e6 : Hid (45 :: Lib.itoa (-n) = Lib.itoa n) := by
      unfold Hid
      rw [Lib.itoa, if_neg (by omega), Lib.itoa, if_pos hn, show n.natAbs = (-n).toNat by omega]
    go_enter Try.func153, Try.ntmps153
    go_wp2_with (go_at_call 153; refine (l1Num_pos (-n) _ (by omega) (by omega)).mono ?_; rintro e w1 ⟨rfl, hb1⟩)
    go_ret
    exact ⟨ret_str (by apply bl_inj; rw [bl_ms, ← e6.out]; simp [bl_append, bl_ms, bl_lit]), by assumption⟩
  · exact l1Num_pos n w (by omega) h1
end Go.Proofs.Ytkhopkonddgicaa

/- Contracts, weak ones: splitting and reading texts in the reference, as the draws need it. -/
namespace Go.Proofs.Ytkhopkonddgicaa
open Go.RowKit

theorem infoStrT : (Try.prog.info? 9).map (fun i => (i.zero, i.size, i.bytes)) = some (some (.string ByteArray.empty), 1, 16) := by kernel_rfl
theorem ext_le (s : ByteArray) (a b : Nat) : (s.extract a b).size ≤ s.size := by
  rw [← bl_length, bl_extract, List.length_take, List.length_drop, bl_length]; omega
theorem itoa_short {z : Int} (h0 : -1000000 ≤ z) (h1 : z ≤ 1000000) : (Lib.itoa z).length ≤ 14 := by
  rw [Lib.itoa]
  split
  · have := decDigits_len 12 z.natAbs (by omega)
    simp only [List.length_cons]; omega
  · have := decDigits_len 12 z.toNat (by omega)
    omega
/-- Some strings, none longer than a bound. -/
def StrsLe (n : Nat) (ps : List ByteArray) : Prop := ∀ p ∈ ps, p.size ≤ n

set_option maxRecDepth 100000 in
set_option maxHeartbeats 4000000 in
theorem l1SplitW_any (s : ByteArray) (b : Int) (w : World) (hs : s.size ≤ 100000) :
    Calls Try.prog 147 #[.string s, .int .u8 b] w fun e w' => ∃ (ps : List ByteArray) (B : Option Addr) (c : Nat), e = .returned (.slice B ps.length c) ∧ 0 < ps.length ∧ ps.length ≤ s.size + 1 ∧ StrsLe s.size ps ∧ Sp w w' [Own 9 1 (.slice B ps.length c) ps.length (ps.map .string)] := by
  obtain ⟨i0, hi, hz0, hz1, hz2⟩ := info_parts infoStrT
  have S0 := Lib.hid ((Sp.start w).own_made 9 1)
  go_enter Try.func147, Try.ntmps147
  go_wp2_with fail
  go_loopw [5, 6, 7] (fun vo vf vi wr => ∃ (k fr : Nat) (ps : List ByteArray) (B : Option Addr) (c : Nat), k ≤ s.size ∧ fr ≤ k ∧ ps.length ≤ k ∧ vi = .int .i64 k ∧ vf = .int .i64 fr ∧ vo = .slice B ps.length c ∧ Hid (StrsLe s.size ps) ∧ Hid (Sp w wr [Own 9 1 (.slice B ps.length c) ps.length (ps.map .string)])) (fun _ _ vi _ => s.size - (intOf vi).toNat)
  case atStart => exact ⟨0, 0, [], _, _, Nat.zero_le _, Nat.le_refl _, Nat.le_refl _, rfl, rfl, rfl, fun p hp => by simp at hp, S0⟩
  case round =>
    obtain ⟨k, fr, ps, B, c, hk, hfr, hps, rfl, rfl, rfl, HL, HS⟩ := hrel
    clear S0
    by_cases hlt : k < s.size
    · by_cases hb : ((s[k].toNat : Int) == b) = true
      · have hx := ext_le s fr k
        have S2 := HS.out.alloc_box #[.string (s.extract fr k)] 9
        have kB := S2.cell (i := 0) rfl (o := 0) rfl
        replace S2 := Lib.hid S2
        clear HS
        go_wp2_with (at_builtin; refine wpList_append_src rfl _ _ rfl Try.underlying114 hi hz0 hz1 hz2 rfl (by decide) _ _ _ rfl (S2.out.own (i := 1) rfl) _ 1 1 [.string (s.extract fr k)] rfl (Src.one kB) (by simp [Value.oneCell']) ?c3 ?c4 ?_)
        case c3 => unfold maxLen; omega
        case c4 => omega
        intro vY wY hownY hgY hatY
        have S4 := (S2.out.own_push (i := 1) rfl (bb _) hownY hgY (by simpa using hatY)).tail
        obtain ⟨aY, cY, rfl⟩ := own_slice hownY
        have hlen : ps.length + 1 = (ps ++ [s.extract fr k]).length := by simp
        have HS3 : Hid (Sp w wY [Own 9 1 (.slice aY (ps ++ [s.extract fr k]).length cY) (ps ++ [s.extract fr k]).length ((ps ++ [s.extract fr k]).map .string)]) := by
          unfold Hid; rw [← hlen, List.map_append]; exact S4
        have HL2 : Hid (StrsLe s.size (ps ++ [s.extract fr k])) := fun p hp => by
          rcases List.mem_append.1 hp with hp | hp
          · exact HL.out p hp
          · obtain rfl : p = s.extract fr k := by simpa using hp
            exact hx
        rw [hlen]
        generalize ps ++ [s.extract fr k] = ps2 at *
        clear S2 S4 kB hownY hgY hatY HL hx
        replace hlen := Lib.hid hlen
        go_wp2_with fail
        go_roundw
        case rel => exact ⟨k + 1, k + 1, ps2, aY, cY, by omega, by omega, by have := hlen.out; omega, by go_num, by go_num, rfl, HL2, HS3⟩
        case measure => simp [intOf]; omega
      · have hb' : ((s[k].toNat : Int) == b) = false := by simpa using hb
        clear hb
        go_wp2_with fail
        go_roundw
        case rel => exact ⟨k + 1, fr, ps, B, c, by omega, by omega, by omega, by go_num, rfl, rfl, HL, HS⟩
        case measure => simp [intOf]; omega
    · obtain rfl : k = s.size := by omega
      have hx := ext_le s fr s.size
      have S2 := HS.out.alloc_box #[.string (s.extract fr s.size)] 9
      have kB := S2.cell (i := 0) rfl (o := 0) rfl
      replace S2 := Lib.hid S2
      clear HS
      go_wp2_with (at_builtin; refine wpList_append_src rfl _ _ rfl Try.underlying114 hi hz0 hz1 hz2 rfl (by decide) _ _ _ rfl (S2.out.own (i := 1) rfl) _ 1 1 [.string (s.extract fr s.size)] rfl (Src.one kB) (by simp [Value.oneCell']) ?c3 ?c4 ?_)
      case c3 => unfold maxLen; omega
      case c4 => omega
      intro vY wY hownY hgY hatY
      have S4 := (S2.out.own_push (i := 1) rfl (bb _) hownY hgY (by simpa using hatY)).tail
      obtain ⟨aY, cY, rfl⟩ := own_slice hownY
      have hlen : ps.length + 1 = (ps ++ [s.extract fr s.size]).length := by simp
      have HS3 : Hid (Sp w wY [Own 9 1 (.slice aY (ps ++ [s.extract fr s.size]).length cY) (ps ++ [s.extract fr s.size]).length ((ps ++ [s.extract fr s.size]).map .string)]) := by
        unfold Hid; rw [← hlen, List.map_append]; exact S4
      have HL2 : Hid (StrsLe s.size (ps ++ [s.extract fr s.size])) := fun p hp => by
        rcases List.mem_append.1 hp with hp | hp
        · exact HL.out p hp
        · obtain rfl : p = s.extract fr s.size := by simpa using hp
          exact hx
      rw [hlen]
      generalize ps ++ [s.extract fr s.size] = ps2 at *
      clear S2 S4 kB hownY hgY hatY HL hx
      replace hlen := Lib.hid hlen
      go_wp2_with fail
      go_ret
      exact ⟨ps2, aY, cY, rfl, by have := hlen.out; omega, by have := hlen.out; omega, HL2.out, HS3.out⟩
end Go.Proofs.Ytkhopkonddgicaa

/- Contracts, weak ones: the number of a text, the text of a clause, in the reference. -/
namespace Go.Proofs.Ytkhopkonddgicaa
open Go.RowKit

/-- A number and whether it was one. -/
def ReadW (e : Ending) : Prop := ∃ (z : Int) (q : Bool), -1000000 ≤ z ∧ z ≤ 1000000 ∧ e = .returned (.tuple #[.int .i64 z, .bool q])
set_option maxRecDepth 100000 in
set_option maxHeartbeats 4000000 in
theorem l1ReadW_any (s : ByteArray) (w : World) (hs : s.size ≤ 100000) :
    Calls Try.prog 148 #[.string s] w fun e w' => ReadW e ∧ Below w.heap.size w w' := by
  go_enter Try.func148, Try.ntmps148
  go_upto_region 2 with fail
  go_cut [15] (fun v wx => ∃ q : Bool, v = .bool q ∧ Hid (q = true → 1 < s.size) ∧ wx = w)
  case first =>
    by_cases h1 : (1 : Int) < (s.size : Int)
    · have d1 : decide ((1 : Int) < (s.size : Int)) = true := decide_eq_true h1
      have h0 : 0 < s.size := by omega
      by_cases h2 : ((s[0].toNat : Int) == 45) = true
      · go_wp2_with fail
        go_meet
        exact ⟨true, rfl, fun _ => by omega, rfl⟩
      · have h2' : ((s[0].toNat : Int) == 45) = false := by simpa using h2
        clear h2
        go_wp2_with fail
        go_meet
        exact ⟨false, rfl, (fun e => by cases e), rfl⟩
    · have d1 : decide ((1 : Int) < (s.size : Int)) = false := decide_eq_false h1
      go_wp2_with fail
      go_meet
      exact ⟨false, rfl, (fun e => by cases e), rfl⟩
  case rest =>
  obtain ⟨q, rfl, hq, hw⟩ := hcut
  subst hw
  go_upto_if 15 with fail
  go_cut [4] (fun v wx => ∃ t : ByteArray, v = .string t ∧ t.size ≤ 100000 ∧ wx = wc)
  case first =>
    cases q
    · go_wp2_with fail
      go_meet
      exact ⟨s, rfl, hs, rfl⟩
    · have hq2 := hq.out rfl
      have h1 : (1 : Int) ≤ (s.size : Int) := by omega
      have hx := ext_le s 1 s.size
      clear hq
      go_wp2_with fail
      go_meet
      exact ⟨s.extract 1 s.size, rfl, by omega, rfl⟩
  case rest =>
  clear hq
  obtain ⟨t, rfl, ht, hw2⟩ := hcut
  subst hw2
  obtain ⟨q6, hq6⟩ : ∃ q, inB (t.size : Int) 1 6 = q := ⟨_, rfl⟩
  go_wp2_with fail
  refine (l1In_any _ _ _ _).mono ?_
  rintro e w1 ⟨rfl, rfl⟩
  rw [hq6]
  cases q6
  · go_wp2_with fail
    go_ret2
    exact ⟨⟨0, false, by decide, by decide, rfl⟩, bb _⟩
  have hT6 : t.size ≤ 6 := by unfold inB at hq6; simp only [Bool.and_eq_true, decide_eq_true_eq] at hq6; omega
  go_wp2_with fail
  go_loop [5, 6] (fun z i => ∃ (k : Nat) (v : Int), k ≤ t.size ∧ i = .int .i64 k ∧ z = .int .i64 v ∧ 0 ≤ v ∧ Hid (v < (10 : Int) ^ k)) (fun _ i => t.size - (intOf i).toNat)
  case atStart => exact ⟨0, 0, Nat.zero_le _, rfl, rfl, Int.le_refl _, by unfold Hid; decide⟩
  case round =>
    obtain ⟨k, v, hk, rfl, rfl, hv0, hv⟩ := hrel
    have hv6 : v < 1000000 := Int.lt_of_lt_of_le hv.out (by
      have h1 : (10 : Int) ^ k = ((10 ^ k : Nat) : Int) := by rw [Int.natCast_pow]; rfl
      have h2 : 10 ^ k ≤ 10 ^ 6 := Nat.pow_le_pow_right (by decide) (by omega)
      omega)
    by_cases hlt : k < t.size
    · have hc256 := t[k].toNat_lt
      by_cases h1 : (t[k].toNat : Int) < 48
      · have d1 : decide ((t[k].toNat : Int) < 48) = true := decide_eq_true h1
        go_wp2_with fail
        go_ret2
        exact ⟨⟨0, false, by decide, by decide, rfl⟩, bb _⟩
      · have d1 : decide ((t[k].toNat : Int) < 48) = false := decide_eq_false h1
        by_cases h2 : (57 : Int) < (t[k].toNat : Int)
        · have d2 : decide ((57 : Int) < (t[k].toNat : Int)) = true := decide_eq_true h2
          go_wp2_with fail
          go_ret2
          exact ⟨⟨0, false, by decide, by decide, rfl⟩, bb _⟩
        · have d2 : decide ((57 : Int) < (t[k].toNat : Int)) = false := decide_eq_false h2
          have hw1 : IntKind.i64.wrap (10 * v) = 10 * v := IntWalk.i64_in _ (by omega)
          have hnx : Hid (10 * v + ((t[k].toNat : Int) - 48) < (10 : Int) ^ (k + 1)) := by
            have h3 := hv.out
            unfold Hid
            rw [Int.pow_succ]
            omega
          have hge : 0 ≤ 10 * v + ((t[k].toNat : Int) - 48) := by omega
          clear hv
          go_wp2_with fail
          go_round
          case rel => exact ⟨k + 1, _, by omega, by go_num, rfl, hge, hnx⟩
          case measure => simp [intOf]; omega
    · obtain rfl : k = t.size := by omega
      clear hv
      have hneg : IntKind.i64.wrap (-v) = -v := IntWalk.i64_in _ (by omega)
      go_upto_if 50 with fail
      go_cut [5] (fun x wx => ∃ z : Int, x = .int .i64 z ∧ -1000000 ≤ z ∧ z ≤ 1000000 ∧ wx = wc)
      case first =>
        by_cases hlt2 : (t.size : Int) < (s.size : Int)
        · have d1 : decide ((t.size : Int) < (s.size : Int)) = true := decide_eq_true hlt2
          go_wp2_with fail
          go_meet
          exact ⟨-v, rfl, by omega, by omega, rfl⟩
        · have d1 : decide ((t.size : Int) < (s.size : Int)) = false := decide_eq_false hlt2
          go_wp2_with fail
          go_meet
          exact ⟨v, rfl, by omega, by omega, rfl⟩
      case rest =>
      obtain ⟨z, rfl, hz0, hz1, hw3⟩ := hcut
      subst hw3
      go_wp2_with fail
      refine (l1Num_any z _ (by omega) (by omega)).mono ?_
      rintro e w2 ⟨rfl, hb2⟩
      generalize ms (Lib.itoa z) = u at *
      obtain ⟨q, hq⟩ : ∃ q, (bl u == bl s) = q := ⟨_, rfl⟩
      cases q
      · go_wp2_with fail
        go_ret2
        exact ⟨⟨0, false, by decide, by decide, rfl⟩, hb2⟩
      · go_wp2_with fail
        go_ret2
        exact ⟨⟨z, true, hz0, hz1, rfl⟩, hb2⟩

set_option maxRecDepth 100000 in
set_option maxHeartbeats 4000000 in
theorem l2TextW_any (c : List Int) (hc : Within 1000000 c) (hl : c.length ≤ 100) (A : Option Addr) (cap : Nat) (w : World) (hx : IntsAt w A c) :
    Calls Try.prog 154 #[.slice A c.length cap] w fun e w' => ∃ t : ByteArray, t.size ≤ 20 * c.length + 20 ∧ e = .returned (.string t) ∧ Below w.heap.size w w' := by
  have hN := Lib.hid hx
  clear hx
  by_cases h0 : c.length = 0
  · have h0' : (c.length : Int) = 0 := by omega
    replace h0 := Lib.hid h0
    go_enter Try.func154, Try.ntmps154
    go_wp2_with fail
    go_ret
    exact ⟨_, by show 4 ≤ _; omega, rfl, bb _⟩
  · have h1 : 0 < c.length := by omega
    have h0' : ((c.length : Int) == 0) = false := by rw [beq_eq_false_iff_ne]; omega
    obtain ⟨b, off, rfl, m0⟩ := hN.out.at_ 0 h1
    have hb0 := hc _ (List.getElem_mem h1)
    rw [Nat.add_zero] at m0
    generalize c[0] = x0 at *
    clear h0
    go_enter Try.func154, Try.ntmps154
    go_wp2_with fail
    refine (l1Num_any x0 _ (by omega) (by omega)).mono ?_
    rintro e w1 ⟨rfl, hb1⟩
    have hsz : (ms (Lib.itoa x0)).size ≤ 14 := by rw [ms_size]; exact itoa_short hb0.1 hb0.2
    generalize ms (Lib.itoa x0) = t0 at *
    have HB0 := Lib.hid hb1
    clear hb1 m0 hb0
    go_wp2_with fail
    go_loopw [3, 4] (fun vs vi wr => ∃ (k : Nat) (t : ByteArray), k ≤ c.length ∧ 1 ≤ k ∧ vi = .int .i64 k ∧ vs = .string t ∧ t.size ≤ 20 * k ∧ Hid (Below w.heap.size w wr)) (fun _ vi _ => c.length - (intOf vi).toNat)
    case atStart => exact ⟨1, t0, h1, Nat.le_refl _, rfl, rfl, by omega, HB0⟩
    case round =>
      obtain ⟨k, t, hk, hk1, rfl, rfl, hts, HB⟩ := hrel
      clear HB0
      by_cases hlt : k < c.length
      · obtain ⟨b', off', e', m0⟩ := (hN.out.grow HB.out).at_ k hlt
        cases e'
        have hb0 := hc _ (List.getElem_mem hlt)
        generalize c[k] = x at *
        obtain ⟨t1, ht1⟩ : ∃ t1, ms (bl t ++ bl ⟨#[32]⟩) = t1 := ⟨_, rfl⟩
        have hs1 : t1.size ≤ 20 * k + 1 := by
          rw [← ht1, ms_size, List.length_append, bl_length, bl_length]
          have : (⟨#[32]⟩ : ByteArray).size = 1 := rfl
          omega
        have a1 := fun w' => run_add (P := Try.prog) w' t ⟨#[32]⟩ (by have : (⟨#[32]⟩ : ByteArray).size = 1 := rfl; omega)
        rw [ht1] at a1
        clear ht1
        go_wp2_with fail
        refine (l1Num_any x _ (by omega) (by omega)).mono ?_
        rintro e w2 ⟨rfl, hb2⟩
        have hsz2 : (ms (Lib.itoa x)).size ≤ 14 := by rw [ms_size]; exact itoa_short hb0.1 hb0.2
        generalize ms (Lib.itoa x) = u at *
        obtain ⟨t2, ht2⟩ : ∃ t2, ms (bl t1 ++ bl u) = t2 := ⟨_, rfl⟩
        have hs2 : t2.size ≤ 20 * (k + 1) := by
          rw [← ht2, ms_size, List.length_append, bl_length, bl_length]
          omega
        have a2 := fun w' => run_add (P := Try.prog) w' t1 u (by omega)
        rw [ht2] at a2
        have HB2 := Lib.hid (btr HB.out hb2)
        clear ht2 HB hb2 hb0 m0 a1
        go_wp2_with fail
        go_roundw
        case rel => exact ⟨k + 1, t2, by omega, by omega, by go_num, rfl, hs2, HB2⟩
        case measure => simp [intOf]; omega
      · obtain rfl : k = c.length := by omega
        go_wp2_with fail
        go_ret
        exact ⟨t, by omega, rfl, HB.out⟩
end Go.Proofs.Ytkhopkonddgicaa

/- Contract, a weak one: a clause read from a text, in the reference. -/
namespace Go.Proofs.Ytkhopkonddgicaa
open Go.RowKit

theorem strs_own {w : World} {B : Nat} {e : TypeId} {A : Option Addr} {c : Nat} {ps : List ByteArray} (h : w.ownsRow B e 1 (.slice A ps.length c) ps.length (ps.map .string)) {j : Nat} (hj : j < ps.length) : ∃ b off, A = some ⟨b, off, none⟩ ∧ w.cell? ⟨b, off + j, none⟩ = some (.string ps[j]) := by
  obtain ⟨g, cap, cur, e1, _, hh, _, _, _, ht⟩ := own_block h (by omega)
  simp only [Value.slice.injEq] at e1
  obtain ⟨rfl, -, rfl⟩ := e1
  refine ⟨g, 0, rfl, ?_⟩
  rw [Nat.mul_one] at ht
  rw [Nat.zero_add, hown_cell hh ht hj]
  simp [hj]
theorem Within.snoc {m : Int} {c : List Int} {x : Int} (h : Within m c) (h0 : -m ≤ x) (h1 : x ≤ m) : Within m (c ++ [x]) := fun y hy => by
  rcases List.mem_append.1 hy with hy | hy
  · exact h y hy
  · obtain rfl : y = x := by simpa using hy
    exact ⟨h0, h1⟩
/-- A clause and whether it is one. -/
def ParseW (vars : Int) (w : World) (e : Ending) (w' : World) : Prop := ∃ (c : List Int) (B : Option Addr) (k : Nat) (q : Bool), e = .returned (.tuple #[.slice B c.length k, .bool q]) ∧ Within 1000000 c ∧ c.length ≤ 13 ∧ (q = true → clauseB vars c = true) ∧ Sp w w' [Own 3 1 (.slice B c.length k) c.length (c.map (.int .i64))]

set_option maxRecDepth 100000 in
set_option maxHeartbeats 8000000 in
theorem l2ParseW_any (vars : Int) (s : ByteArray) (w : World) (hs : s.size ≤ 100000) :
    Calls Try.prog 149 #[.int .i64 vars, .string s] w (ParseW vars w) := by
  have S0 := Lib.hid ((Sp.start w).own_made 3 1)
  obtain ⟨i0, hi, hz0, hz1, hz2⟩ := info_parts infoInt
  go_enter Try.func149, Try.ntmps149
  go_upto_region 2 with fail
  go_cut [13] (fun v wx => ∃ q : Bool, v = .bool q ∧ Hid (Sp w wx [Own 3 1 (.slice (some ⟨w.heap.size, 0, none⟩) 0 0) 0 []]))
  case first =>
    go_wp2_with fail
    go_meet
    exact ⟨_, rfl, S0⟩
  case rest =>
  clear S0
  obtain ⟨q, rfl, S0⟩ := hcut
  cases q
  case true =>
    obtain ⟨q1, hq1⟩ : ∃ q, inB vars 0 12 = q := ⟨_, rfl⟩
    go_wp2_with fail
    refine (l2Vars_any _ _).mono ?_
    rw [hq1]
    rintro e w1 ⟨rfl, rfl⟩
    go_wp2_with fail
    go_ret2
    exact ⟨[], _, _, q1, rfl, fun x hx => by simp at hx, by simp, fun h => by unfold clauseB; rw [hq1, h]; rfl, S0.out⟩
  case false =>
  go_wp2_with fail
  refine (l1SplitW_any s 32 _ hs).mono ?_
  rintro e w1 ⟨ps, PB, pc, rfl, hps0, hps1, HL, T1⟩
  have S1 : Hid (Sp w w1 [Own 9 1 (.slice PB ps.length pc) ps.length (ps.map .string), Own 3 1 (.slice (some ⟨w.heap.size, 0, none⟩) ([] : List Int).length 0) ([] : List Int).length (([] : List Int).map (.int .i64))]) := S0.out.seq T1
  replace HL := Lib.hid HL
  clear S0 T1
  go_wp2_with fail
  go_loopw [6, 8, 9, 10] (fun vo vi _ _ wr => ∃ (c : List Int) (B : Option Addr) (cap : Nat), c.length ≤ ps.length ∧ c.length ≤ 13 ∧ vi = .int .i64 (c.length : Nat) ∧ vo = .slice B c.length cap ∧ Hid (Within 1000000 c) ∧ Hid (Sp w wr [Own 9 1 (.slice PB ps.length pc) ps.length (ps.map .string), Own 3 1 (.slice B c.length cap) c.length (c.map (.int .i64))])) (fun _ vi _ _ _ => ps.length - (intOf vi).toNat)
  case atStart => exact ⟨[], _, _, Nat.zero_le _, by simp, rfl, rfl, fun x hx => by simp at hx, S1⟩
  case round =>
    obtain ⟨c, B, cap, hk, hk13, rfl, rfl, HW, HS⟩ := hrel
    clear S1
    go_upto_region 6 with fail
    go_cut [26] (fun v wx => ∃ q : Bool, v = .bool q ∧ Hid (q = true → c.length < ps.length ∧ c.length ≤ 12) ∧ Hid (Sp w wx [Own 9 1 (.slice PB ps.length pc) ps.length (ps.map .string), Own 3 1 (.slice B c.length cap) c.length (c.map (.int .i64))]))
    case first =>
      have hcond : (c.length < ps.length ∧ c.length ≤ 12) ∨ ¬ c.length < ps.length ∨ (c.length < ps.length ∧ ¬ c.length ≤ 12) := by omega
      rcases hcond with ⟨hm, hn0⟩ | hm | ⟨hm, hn0⟩
      · have d1 : decide ((c.length : Int) < (ps.length : Int)) = true := decide_eq_true (by omega)
        have d2 : decide ((c.length : Int) ≤ 12) = true := decide_eq_true (by omega)
        go_wp2_with fail
        go_meet
        exact ⟨true, rfl, fun _ => ⟨hm, hn0⟩, HS⟩
      · have d1 : decide ((c.length : Int) < (ps.length : Int)) = false := decide_eq_false (by omega)
        go_wp2_with fail
        go_meet
        exact ⟨false, rfl, (fun e => by cases e), HS⟩
      · have d1 : decide ((c.length : Int) < (ps.length : Int)) = true := decide_eq_true (by omega)
        have d2 : decide ((c.length : Int) ≤ 12) = false := decide_eq_false (by omega)
        go_wp2_with fail
        go_meet
        exact ⟨false, rfl, (fun e => by cases e), HS⟩
    case rest =>
    clear HS
    obtain ⟨q, rfl, hq, HS⟩ := hcut
    cases q
    case true =>
      obtain ⟨hm, hn0⟩ := hq.out rfl
      clear hq
      obtain ⟨b, off, rfl, m0⟩ := strs_own (HS.out.own (i := 0) rfl) hm
      have hsz := HL.out _ (List.getElem_mem hm)
      have hrd := Lib.hid (fun W => l1ReadW_any ps[c.length] W (by omega))
      generalize ps[c.length] = p at *
      go_wp2_with fail
      refine (hrd.out _).mono ?_
      rintro e w2 ⟨⟨z, q, hzl, hzu, rfl⟩, hb2⟩
      have S2 := Lib.hid (HS.out.grow hb2)
      clear HS hrd hb2 m0 hsz
      cases q
      · have S3 := Lib.hid (S2.out.own_made 3 1)
        clear S2
        go_wp2_with fail
        go_ret2
        exact ⟨[], _, _, false, rfl, fun x hx => by simp at hx, by simp, (fun e => by cases e), S3.out.swap.tail.swap.tail⟩
      · have S3 := S2.out.alloc_box #[.int .i64 z] 3
        have kB := S3.cell (i := 0) rfl (o := 0) rfl
        replace S3 := Lib.hid S3
        clear S2
        go_wp2_with (at_builtin; refine wpList_append_src rfl _ _ rfl Try.underlying45 hi hz0 hz1 hz2 rfl (by decide) _ _ _ rfl (S3.out.own (i := 2) rfl) _ 1 1 [.int .i64 z] rfl (Src.one kB) (by simp [Value.oneCell']) ?c3 ?c4 ?_)
        case c3 => unfold maxLen; omega
        case c4 => omega
        intro vY wY hownY hgY hatY
        have S4 := (S3.out.own_push (i := 2) rfl (bb _) hownY hgY (by simpa using hatY)).tail
        obtain ⟨aY, cY, rfl⟩ := own_slice hownY
        have hlen : c.length + 1 = (c ++ [z]).length := by simp
        have HS3 : Hid (Sp w wY [Own 9 1 (.slice (some ⟨b, off, none⟩) ps.length pc) ps.length (ps.map .string), Own 3 1 (.slice aY (c ++ [z]).length cY) (c ++ [z]).length ((c ++ [z]).map (.int .i64))]) := by
          unfold Hid; rw [← hlen, List.map_append]; exact S4
        have HW2 := Lib.hid (HW.out.snoc hzl hzu)
        have hi1 : IntKind.i64.wrap ((c.length : Int) + 1) = ((c ++ [z]).length : Int) := by rw [IntWalk.i64_in _ (by omega), ← hlen]; omega
        rw [hlen]
        have hl2 : (c ++ [z]).length ≤ ps.length := by omega
        have hl3 : (c ++ [z]).length ≤ 13 := by omega
        have hl4 : c.length < (c ++ [z]).length := by omega
        generalize c ++ [z] = c2 at *
        replace hlen := Lib.hid hlen
        clear S3 S4 kB hownY hgY hatY HW
        go_wp2_with fail
        go_roundw
        case rel => exact ⟨c2, aY, cY, hl2, hl3, rfl, rfl, HW2, HS3⟩
        case measure => simp [intOf]; omega
    case false =>
      clear hq
      obtain ⟨F, hr, _, _⟩ := own_row (HS.out.own (i := 1) rfl) (HW.out.i64 (by decide))
      obtain ⟨A', c', e', hI⟩ := ints_own (HS.out.own (i := 1) rfl) (HW.out.i64 (by decide))
      cases e'
      have hcl := Lib.hid (l2Clause_any vars _ c F _ (Ty.row_down hr))
      have htx := Lib.hid (fun W hb => l2TextW_any c HW.out (by omega) B cap W (hI.grow hb))
      clear hr hI
      go_upto_region 12 with fail
      go_cut [58] (fun v wx => ∃ q : Bool, v = .bool q ∧ Hid (q = false → clauseB vars c = true) ∧ Hid (Sp w wx [Own 9 1 (.slice PB ps.length pc) ps.length (ps.map .string), Own 3 1 (.slice B c.length cap) c.length (c.map (.int .i64))]))
      case first =>
        by_cases h12 : (12 : Int) < (ps.length : Int)
        · have d1 : decide ((12 : Int) < (ps.length : Int)) = true := decide_eq_true h12
          go_wp2_with fail
          go_meet
          exact ⟨true, rfl, (fun e => by cases e), HS⟩
        · have d1 : decide ((12 : Int) < (ps.length : Int)) = false := decide_eq_false h12
          obtain ⟨q, hq⟩ : ∃ q, clauseB vars c = q := ⟨_, rfl⟩
          rw [hq] at hcl
          go_wp2_with fail
          refine hcl.out.mono ?_
          rintro e w2 ⟨rfl, hb2⟩
          have S2 := Lib.hid (HS.out.grow hb2)
          have htx2 := Lib.hid (htx.out _ hb2)
          clear HS hcl htx hb2
          cases q
          · go_wp2_with fail
            go_meet
            exact ⟨true, rfl, (fun e => by cases e), S2⟩
          · go_wp2_with fail
            refine htx2.out.mono ?_
            rintro e w3 ⟨t, ht, rfl, hb3⟩
            have S3 := Lib.hid (S2.out.grow hb3)
            clear S2 htx2 hb3
            go_wp2_with fail
            go_meet
            exact ⟨_, rfl, fun _ => hq, S3⟩
      case rest =>
      clear HS hcl htx
      obtain ⟨q, rfl, hq, HS⟩ := hcut
      cases q
      · have hcb := hq.out rfl
        go_wp2_with fail
        go_ret2
        exact ⟨c, B, cap, true, rfl, HW.out, hk13, fun _ => hcb, HS.out.tail⟩
      · have S3 := Lib.hid (HS.out.own_made 3 1)
        clear HS
        go_wp2_with fail
        go_ret2
        exact ⟨[], _, _, false, rfl, fun x hx => by simp at hx, by simp, (fun e => by cases e), S3.out.swap.tail.swap.tail⟩
end Go.Proofs.Ytkhopkonddgicaa

/- Contract, a weak one: the text of a Cnf, in the reference. -/
namespace Go.Proofs.Ytkhopkonddgicaa
open Go.RowKit

/-- Clauses that are short and small. -/
def SmallC (xss : List (List Int)) : Prop := ∀ c ∈ xss, Within 1000000 c ∧ c.length ≤ 13

set_option maxRecDepth 100000 in
set_option maxHeartbeats 4000000 in
theorem l2TextOfW_any (vars : Int) (hv : -1000000 ≤ vars ∧ vars ≤ 1000000) (xss : List (List Int)) (hc : SmallC xss) (hl : xss.length ≤ 1000) (A : Option Addr) (cap : Nat) (w : World) (hx : ClsAt w A xss) :
    Calls Try.prog 150 #[.agg #[.int .i64 vars, .slice A xss.length cap]] w fun e w' => ∃ t : ByteArray, e = .returned (.string t) ∧ Below w.heap.size w w' := by
  have hN := Lib.hid hx
  have hcc := Lib.hid hc
  have S0 := (Sp.start w).alloc_box #[.int .i64 vars, .slice A xss.length cap] 26
  have c0 := S0.cell (i := 0) rfl (o := 0) rfl
  replace S0 := Lib.hid S0
  clear hx hc
  go_enter Try.func150, Try.ntmps150
  go_wp2_with fail
  refine (l1Num_any vars _ (by omega) (by omega)).mono ?_
  rintro e w1 ⟨rfl, hb1⟩
  have hsz : (ms (Lib.itoa vars)).size ≤ 14 := by rw [ms_size]; exact itoa_short hv.1 hv.2
  generalize ms (Lib.itoa vars) = t0 at *
  have S1 := Lib.hid (S0.out.grow hb1)
  clear S0 hb1 c0
  go_wp2_with fail
  go_loopw [3, 4] (fun vs vi wr => ∃ (k : Nat) (t : ByteArray), k ≤ xss.length ∧ vi = .int .i64 k ∧ vs = .string t ∧ t.size ≤ 300 * k + 20 ∧ Hid (Sp w wr [Box w.heap.size 26 #[.int .i64 vars, .slice A xss.length cap]])) (fun _ vi _ => xss.length - (intOf vi).toNat)
  case atStart => exact ⟨0, t0, Nat.zero_le _, rfl, rfl, by omega, S1⟩
  case round =>
    obtain ⟨k, t, hk, rfl, rfl, hts, HS⟩ := hrel
    clear S1
    have c1 := HS.out.cell (i := 0) rfl (o := 1) rfl
    by_cases hlt : k < xss.length
    · obtain ⟨b, off, Bc, cc, rfl, m0, hI⟩ := (hN.out.grow HS.out.below).at_ k hlt
      have hcl := hcc.out _ (List.getElem_mem hlt)
      have htx := Lib.hid (l2TextW_any xss[k] hcl.1 (by omega) Bc cc wr hI)
      have hl13 := hcl.2
      generalize xss[k] = c at *
      obtain ⟨t1, ht1⟩ : ∃ t1, ms (bl t ++ bl ⟨#[59, 32]⟩) = t1 := ⟨_, rfl⟩
      have hs1 : t1.size ≤ 300 * k + 22 := by
        rw [← ht1, ms_size, List.length_append, bl_length, bl_length]
        have : (⟨#[59, 32]⟩ : ByteArray).size = 2 := rfl
        omega
      have a1 := fun w' => run_add (P := Try.prog) w' t ⟨#[59, 32]⟩ (by have : (⟨#[59, 32]⟩ : ByteArray).size = 2 := rfl; omega)
      rw [ht1] at a1
      clear ht1 hI
      go_wp2_with fail
      refine htx.out.mono ?_
      rintro e w2 ⟨u, hu, rfl, hb2⟩
      obtain ⟨t2, ht2⟩ : ∃ t2, ms (bl t1 ++ bl u) = t2 := ⟨_, rfl⟩
      have hs2 : t2.size ≤ 300 * (k + 1) + 20 := by
        rw [← ht2, ms_size, List.length_append, bl_length, bl_length]
        omega
      have a2 := fun w' => run_add (P := Try.prog) w' t1 u (by omega)
      rw [ht2] at a2
      have S2 := Lib.hid (HS.out.grow hb2)
      clear ht2 HS hb2 m0 a1 c1 htx
      go_wp2_with fail
      go_roundw
      case rel => exact ⟨k + 1, t2, by omega, by go_num, rfl, hs2, S2⟩
      case measure => simp [intOf]; omega
    · obtain rfl : k = xss.length := by omega
      have hB := HS.out.below
      go_wp2_with fail
      go_ret
      exact ⟨t, rfl, hB⟩
end Go.Proofs.Ytkhopkonddgicaa

/- Memory in parts beside a cursor that turns: rows of rows. -/
namespace Go.Proofs.Ytkhopkonddgicaa
open Go.RowKit

/-- An own row of numbers is a row with all that it reaches. -/
theorem Sp.own_to_row {w0 w : World} {ps : List Asn} {e : TypeId} {v : Value} {c : List Int} (h : Sp w0 w (Own e 1 v c.length (c.map (.int .i64)) :: ps)) (hok : ∀ x ∈ c, I64 x) : Sp w0 w (Row Ty.int v c :: ps) := by
  obtain ⟨F, ⟨rfl, ho⟩, _, hall⟩ := h.upd (i := 0) rfl
  obtain ⟨F, hr, hF, _⟩ := Ty.row_of_owns (T := Ty.int) ho rfl (by decide) (Ty.all_int hok)
  refine hall w (Row Ty.int v c) F (Chg.refl _ _) ⟨hr, ?_⟩ fun b hb => .inl ?_
  · rcases hF with rfl | ⟨g, _, _, _, rfl⟩ <;> simp
  · rcases hF with rfl | ⟨g, _, _, hg, rfl⟩
    · simp at hb
    · simp [hg] at hb ⊢; exact hb
section
variable {w0 w w' w1 : World} {g cl cc A i : Nat} {ca : Option Addr} {ps : List Asn} {e : TypeId}
theorem CS.own_to_row {v : Value} {c : List Int} (h : CS w0 g ca cl cc A w (Own e 1 v c.length (c.map (.int .i64)) :: ps)) (hok : ∀ x ∈ c, I64 x) : CS w0 g ca cl cc A w (Row Ty.int v c :: ps) := by
  obtain ⟨F, ⟨rfl, ho⟩, _, hall⟩ := h.upd (i := 0) rfl
  obtain ⟨F, hr, hF, _⟩ := Ty.row_of_owns (T := Ty.int) ho rfl (by decide) (Ty.all_int hok)
  refine hall w (Row Ty.int v c) F (Chg.refl _ _) ⟨hr, ?_⟩ fun b hb => .inl ?_
  · rcases hF with rfl | ⟨g, _, _, _, rfl⟩ <;> simp
  · rcases hF with rfl | ⟨g, _, _, hg, rfl⟩
    · simp at hb
    · simp [hg] at hb ⊢; exact hb
variable {α : Type} {T : Ty α} {v v' u : Value} {cs : List Value} {xss : List (List α)} {ys : List α}
theorem CS.rows (h : CS w0 g ca cl cc A w ps) (hi : ps[i]? = some (Rows T e v cs xss)) : w.ownsRow 0 e 1 v xss.length cs := by
  obtain ⟨F, ⟨G, _, _, _, h⟩, _⟩ := h.get hi
  exact h
theorem CS.rows_made (h : CS w0 g ca cl cc A w ps) (T : Ty α) (e : TypeId) : CS w0 g ca cl cc A (w.alloc (.cells #[] e)) (Rows T e (.slice (some ⟨w.heap.size, 0, none⟩) 0 0) [] [] :: ps) :=
  h.new (F := [w.heap.size]) (bal (bb _) _) ⟨[], rfl, by simp, ⟨rfl, rfl⟩, ⟨by simp, .inr ⟨w.heap.size, 0, #[], rfl, Nat.zero_le _, heap_alloc_new w _, Nat.le_refl _, by decide, by simp, by simp⟩⟩⟩ (by simp)
/-- A row goes into a row of rows. -/
theorem CS.rows_push (h : CS w0 g ca cl cc A w (Row T u ys :: Rows T e v cs xss :: ps)) (hb : Below w.heap.size w w1) (ho : w'.ownsRow 0 e 1 v' (xss.length + 1) (cs ++ [u])) (hg : w1.grownBy w' v.ownBlock)
    (hat : v'.ownBlock = v.ownBlock ∨ v'.ownBlock = some w1.heap.size) : CS w0 g ca cl cc A w' (Rows T e v' (cs ++ [u]) (xss ++ [ys]) :: ps) := by
  have hsz := h.chg.size
  obtain ⟨⟨A0, h0'⟩, hcur, h1, F, ⟨F1, F2, rfl, hd, ⟨hr, hn⟩, ⟨F3, F4, rfl, hd', ⟨G, rfl, hn', hall, hown⟩, h5⟩⟩, h3⟩ := h
  have hr1 := Ty.row_keep hr fun b hm => hb.block b (Ty.row_lt hr b hm)
  have hall1 := Ty.all_keep hall fun b hm => hb.block b (Ty.all_lt hall b hm)
  have h51 := sep_keep h5 fun b hm => hb.block b (sep_lt h5 b hm)
  have hkeep : ∀ b, b < w.heap.size → (∀ g, v.ownBlock = some g → b ≠ g) → w'.heap[b]? = w1.heap[b]? := fun b hlt hne => hg.block b (Nat.lt_of_lt_of_le hlt hb.size) (fun e => hne b e.symm rfl)
  have hr2 := Ty.row_keep hr1 fun b hm => hkeep b (Ty.row_lt hr b hm) fun g hg' e => hd b hm (by simp [hg', e])
  have hnG : ∀ b ∈ G, ∀ g, v.ownBlock = some g → b ≠ g := fun b hm g hg' e => by
    rw [List.nodup_append] at hn'
    exact hn'.2.2 g (by simp [hg']) b hm e.symm
  have hall2 := Ty.all_keep hall1 fun b hm => hkeep b (Ty.all_lt hall b hm) (hnG b hm)
  have h52 := sep_keep h51 fun b hm => hkeep b (sep_lt h5 b hm) fun g hg' e => hd' b (by simp [hg', e]) hm
  have hlv : ∀ b ∈ v'.ownBlock.toList, b ∈ v.ownBlock.toList ∨ b = w1.heap.size := fun b hm => by
    rcases hat with h | h
    · left; rwa [h] at hm
    · right; rw [h] at hm; simpa using hm
  have hs := hb.size
  have hold : ∀ k, k < w0.heap.size → w'.heap[k]? = w.heap[k]? := fun k hk => (hkeep k (by omega) fun g hg' e => by have := h3 g (by simp [hg']); omega).trans (hb.block k (by omega))
  have hchg : Chg [g] w0 w' := ⟨hg.os.trans (hb.os.trans h1.os), hg.tape.trans (hb.tape.trans h1.tape), hg.output.trans (hb.output.trans h1.output), by have := hg.size; omega, fun k hk hn => (hold k hk).trans (h1.block k hk hn)⟩
  refine ⟨⟨A0, h0'⟩, h0'.stay hcur hold, hchg, (v'.ownBlock.toList ++ (G ++ F1)) ++ F4, ⟨_, F4, rfl, ?_, ⟨G ++ F1, rfl, ?_, ?_, by simpa using ho⟩, h52⟩, ?_⟩
  · intro b hm hm4
    rcases List.mem_append.1 hm with hm | hm
    · rcases hlv b hm with h | h
      · exact hd' b (List.mem_append.2 (.inl h)) hm4
      · have := sep_lt h5 b hm4; omega
    · rcases List.mem_append.1 hm with hm | hm
      · exact hd' b (List.mem_append.2 (.inr hm)) hm4
      · exact hd b hm (List.mem_append.2 (.inr hm4))
  · refine List.nodup_append.2 ⟨by cases v'.ownBlock <;> simp, List.nodup_append.2 ⟨(List.nodup_append.1 hn').2.1, hn, fun x hx y hy e => hd y hy (by simp [← e, hx])⟩, fun x hx y hy e => ?_⟩
    subst e
    rcases hlv x hx with h | h
    · rcases List.mem_append.1 hy with hy | hy
      · exact (List.nodup_append.1 hn').2.2 x h x hy rfl
      · exact hd x hy (List.mem_append.2 (.inl (List.mem_append.2 (.inl h))))
    · rcases List.mem_append.1 hy with hy | hy
      · have := Ty.all_lt hall x hy; omega
      · have := Ty.row_lt hr x hy; omega
  · exact Ty.all_snoc hall2 ⟨u, rfl, hr2⟩
  · intro b hm
    rcases List.mem_append.1 hm with hm | hm
    · rcases List.mem_append.1 hm with hm | hm
      · rcases hlv b hm with h | h
        · exact h3 b (by simp at h ⊢; simp [h])
        · omega
      · rcases List.mem_append.1 hm with hm | hm
        · exact h3 b (by simp [hm])
        · exact h3 b (by simp [hm])
    · exact h3 b (by simp [hm])
/-- The finished row of rows. -/
theorem CS.rows_done (h : CS w0 g ca cl cc A w ps) (hi : ps[i]? = some (Rows T e v cs xss)) : ∃ F, (Ty.slice T).row true w v xss F ∧ F.Nodup ∧ (∀ b ∈ F, w0.heap.size ≤ b) := by
  obtain ⟨F, ⟨G, rfl, hn, hall, hown⟩, hF⟩ := h.get hi
  obtain ⟨F', hr, hF', _⟩ := Ty.row_of_owns hown rfl (by decide) hall
  rcases hF' with rfl | ⟨g, _, _, ho, rfl⟩
  · exact ⟨[], hr, by simp, by simp⟩
  · refine ⟨g :: G, hr, ?_, ?_⟩
    · rw [ho] at hn; simpa using hn
    · rw [ho] at hF; simpa using hF
end
end Go.Proofs.Ytkhopkonddgicaa
