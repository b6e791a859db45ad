/- Lemmas and contracts for a law, put together out of several texts: GtCa GtR GtCb MdG GtQ PlB NumT TxA TxB. -/
import Derived.Test.YtkhopkonddgicaaMg6
import Derived.Test.YtkhopkonddgicaaMg3
import Derived.Test.YtkhopkonddgicaaMg4
import Derived.Test.YtkhopkonddgicaaMg1
import Derived.Lib.QuietBelow
import Derived.BigQuiet
/- Contract: the circuit of a Cnf, in the program. -/
namespace Go.Proofs.Ytkhopkonddgicaa
open Go.RowKit

theorem Src.sixG {w : World} {b : Nat} {x y z x' y' z' : Value} (h0 : w.cell? ⟨b, 0, none⟩ = some x) (h1 : w.cell? ⟨b, 1, none⟩ = some y) (h2 : w.cell? ⟨b, 2, none⟩ = some z) (h3 : w.cell? ⟨b, 3, none⟩ = some x') (h4 : w.cell? ⟨b, 4, none⟩ = some y') (h5 : w.cell? ⟨b, 5, none⟩ = some z') : Src w (some ⟨b, 0, none⟩) 2 3 [x, y, z, x', y', z'] :=
  .inr ⟨_, rfl, rfl, fun j u hj => by
    match j, hj with
    | 0, hj => simp at hj; subst hj; rw [add_none]; exact h0
    | 1, hj => simp at hj; subst hj; rw [add_none]; exact h1
    | 2, hj => simp at hj; subst hj; rw [add_none]; exact h2
    | 3, hj => simp at hj; subst hj; rw [add_none]; exact h3
    | 4, hj => simp at hj; subst hj; rw [add_none]; exact h4
    | 5, hj => simp at hj; subst hj; rw [add_none]; exact h5⟩
theorem flat_snoc (M : List Gt) (g : Gt) : (M ++ [g]).flatMap gtEnc = M.flatMap gtEnc ++ [.int .i64 g.k, .int .i64 g.a, .int .i64 g.b] := by simp [gtEnc]
/-- What lies in memory while the circuit is made. -/
abbrev CiSp (w : World) (n : Nat) (A : Option Addr) (m cap : Nat) (M : List Gt) (N : Nat) (ov : Value) (W : World) : Prop :=
  Sp w W [Box w.heap.size 26 #[.int .i64 n, .slice A m cap], Own 41 3 ov N (M.flatMap gtEnc)]

set_option maxRecDepth 100000 in
set_option maxHeartbeats 16000000 in
theorem circuitOf_any (n : Nat) (v : Value) (xss : List (List Int)) (F : List Nat) (w : World) (hx : (Ty.slice Ty.int).row false w v xss F) (h1 : goodB n xss = true) :
    Calls Try.prog 8 #[.agg #[.int .i64 n, v]] w (GOut w (decide ((circR n xss).length ≤ 200)) (circR n xss)) := by
  obtain ⟨i0, hi0, hz0, hz1, hz2⟩ := info_parts infoGt
  obtain ⟨A, cap, rfl, hI⟩ := cls_row hx
  have hg := good_cnf h1
  have hn : n ≤ 12 := by omega
  have hm := hg.2.1
  have hcl : Hid (∀ c ∈ xss, c.length ≤ 1000) := fun c hc => (hg.2.2.2 c hc).2
  have hlit := Lib.hid (good_lits h1)
  have S0 := (Sp.start w).alloc_box #[.int .i64 n, .slice A xss.length cap] 26
  have hcall0 := implIsCnf_any n _ xss F _ (Ty.row_below hx S0.below (Ty.row_lt hx))
  rw [h1] at hcall0
  replace hcall0 := Lib.hid hcall0
  have hI2 := Lib.hid hI
  have hn0 : (0 : Int) ≤ n := by omega
  replace S0 := Lib.hid S0
  obtain ⟨m, hme⟩ : ∃ m, xss.length = m := ⟨_, rfl⟩
  rw [hme] at hcall0 S0 hm
  clear hx hI hg
  rw [hme]
  replace hme := Lib.hid hme
  go_enter Try.func8, Try.ntmps8
  go_wp2_with fail
  refine hcall0.out.mono ?_
  rintro e w1 ⟨rfl, hb1⟩
  have S1 := ((S0.out.grow hb1).own_nil 41 3).pick [1, 0] rfl
  replace S1 := Lib.hid S1
  clear S0 hb1 hcall0
  go_wp2_with fail
  go_loopw [5, 4] (fun i o wr => ∃ (j : Nat) (ov : Value), j ≤ n ∧ i = .int .i64 ((j : Int) + 1) ∧ o = ov ∧ Hid (CiSp w n A m cap (base1 j) j ov wr)) (fun i _ _ => n + 1 - (intOf i).toNat)
  case atStart => exact ⟨0, .slice none 0 0, Nat.zero_le _, rfl, rfl, S1⟩
  case round =>
    obtain ⟨j, ov, hj, rfl, rfl, hS⟩ := hrel
    clear S1
    have c0 := hS.out.cell (i := 0) rfl (o := 0) rfl
    obtain ⟨aO, cO, rfl⟩ := own_slice (hS.out.own (i := 1) rfl)
    by_cases hlt : j < n
    · have hji : ((j : Int) + 1) ≤ n := by omega
      have hw : IntKind.i64.wrap ((j : Int) + 1 + 1) = (j : Int) + 1 + 1 := IntWalk.i64_in _ (by omega)
      have S3 := hS.out.alloc_box #[.int .i64 1, .int .i64 ((j : Int) + 1), .int .i64 0] 41
      have kG0 := S3.cell (i := 0) rfl (o := 0) rfl
      have kG1 := S3.cell (i := 0) rfl (o := 1) rfl
      have kG2 := S3.cell (i := 0) rfl (o := 2) rfl
      replace S3 := Lib.hid S3
      clear hS
      go_wp2_with (at_builtin; refine wpList_append_src rfl _ _ rfl Try.underlying28 hi0 hz0 hz1 hz2 rfl (by decide) _ j _ rfl (S3.out.own (i := 2) rfl) _ 1 1 [.int .i64 1, .int .i64 ((j : Int) + 1), .int .i64 0] rfl (Src.threeG kG0 kG1 kG2) (by simp [Value.oneCell']) ?c3 ?c4 ?_)
      case c3 => unfold maxLen; omega
      case c4 => omega
      intro vE wE hownE hgE hatE
      have S4 := (S3.out.own_push (i := 2) rfl (bb _) hownE hgE (by simpa using hatE)).tail
      simp only [List.set_cons_zero, List.set_cons_succ] at S4
      obtain ⟨aE, cE, rfl⟩ := own_slice hownE
      have hS := Lib.hid S4
      clear S3 S4 kG0 kG1 kG2 hownE hgE hatE
      clear c0
      go_wp2_with fail
      go_roundw
      case rel =>
        refine ⟨j + 1, _, by omega, by first | rfl | simp, rfl, ?_⟩
        unfold Hid CiSp
        rw [base1_succ, flat_snoc]
        exact hS.out
      case measure => simp [intOf]; omega
    · obtain rfl : n = j := by omega
      have hji : ¬ ((n : Int) + 1) ≤ n := by omega
      go_wp2_with fail
      clear hji hlt
      go_loopw [31, 4] (fun i o wr => ∃ (j : Nat) (ov : Value), j ≤ n ∧ i = .int .i64 (j : Int) ∧ o = ov ∧ Hid (CiSp w n A m cap (base2 n j) (n + j) ov wr)) (fun i _ _ => n - (intOf i).toNat)
      case atStart => exact ⟨0, _, Nat.zero_le _, rfl, rfl, by unfold Hid; rw [base2_zero]; exact hS.out⟩
      case round =>
        obtain ⟨j, ov, hj, rfl, rfl, hS⟩ := hrel
        clear c0
        have c0 := hS.out.cell (i := 0) rfl (o := 0) rfl
        obtain ⟨aO, cO, rfl⟩ := own_slice (hS.out.own (i := 1) rfl)
        by_cases hlt : j < n
        · have hji : (j : Int) < n := by omega
          have S3 := hS.out.alloc_box #[.int .i64 4, .int .i64 (j : Int), .int .i64 0] 41
          have kG0 := S3.cell (i := 0) rfl (o := 0) rfl
          have kG1 := S3.cell (i := 0) rfl (o := 1) rfl
          have kG2 := S3.cell (i := 0) rfl (o := 2) rfl
          replace S3 := Lib.hid S3
          clear hS
          go_wp2_with (at_builtin; refine wpList_append_src rfl _ _ rfl Try.underlying28 hi0 hz0 hz1 hz2 rfl (by decide) _ (n+j) _ rfl (S3.out.own (i := 2) rfl) _ 1 1 [.int .i64 4, .int .i64 (j : Int), .int .i64 0] rfl (Src.threeG kG0 kG1 kG2) (by simp [Value.oneCell']) ?c3 ?c4 ?_)
          case c3 => unfold maxLen; omega
          case c4 => omega
          intro vE wE hownE hgE hatE
          have S4 := (S3.out.own_push (i := 2) rfl (bb _) hownE hgE (by simpa using hatE)).tail
          simp only [List.set_cons_zero, List.set_cons_succ] at S4
          obtain ⟨aE, cE, rfl⟩ := own_slice hownE
          have hS := Lib.hid S4
          clear S3 S4 kG0 kG1 kG2 hownE hgE hatE
          clear c0
          go_wp2_with fail
          go_roundw
          case rel =>
            refine ⟨j + 1, _, by omega, by first | rfl | simp, rfl, ?_⟩
            unfold Hid CiSp
            rw [base2_succ, flat_snoc]
            exact hS.out
          case measure => simp [intOf]; omega
        · obtain rfl : n = j := by omega
          have hji : ¬ (n : Int) < n := by omega
          have S3 := hS.out.alloc_box #[.int .i64 2, .int .i64 0, .int .i64 0, .int .i64 3, .int .i64 0, .int .i64 0] 41
          have kG0 := S3.cell (i := 0) rfl (o := 0) rfl
          have kG1 := S3.cell (i := 0) rfl (o := 1) rfl
          have kG2 := S3.cell (i := 0) rfl (o := 2) rfl
          have kG3 := S3.cell (i := 0) rfl (o := 3) rfl
          have kG4 := S3.cell (i := 0) rfl (o := 4) rfl
          have kG5 := S3.cell (i := 0) rfl (o := 5) rfl
          replace S3 := Lib.hid S3
          clear hS
          go_wp2_with (at_builtin; refine wpList_append_src rfl _ _ rfl Try.underlying28 hi0 hz0 hz1 hz2 rfl (by decide) _ (n+n) _ rfl (S3.out.own (i := 2) rfl) _ 2 2 [.int .i64 2, .int .i64 0, .int .i64 0, .int .i64 3, .int .i64 0, .int .i64 0] rfl (Src.sixG kG0 kG1 kG2 kG3 kG4 kG5) (by simp [Value.oneCell']) ?c3 ?c4 ?_)
          case c3 => unfold maxLen; omega
          case c4 => omega
          intro vE wE hownE hgE hatE
          have S4 := (S3.out.own_push (i := 2) rfl (bb _) hownE hgE (by simpa using hatE)).tail
          simp only [List.set_cons_zero, List.set_cons_succ] at S4
          obtain ⟨aE, cE, rfl⟩ := own_slice hownE
          clear S3 hownE hgE hatE kG0 kG1 kG2 kG3 kG4 kG5 hji hlt c0
          have hlen0 : Hid ((cnfG n (xss.take 0)).1.length = n + n + 2) := by
            unfold Hid
            show (baseG n).length = _
            rw [base_len]
            omega
          have hS : Hid (CiSp w n A m cap (cnfG n (xss.take 0)).1 (n + n + 2) (.slice aE (n + n + 2) cE) wE) := by
            unfold Hid CiSp
            show Sp w wE [_, Own _ _ _ _ ((baseG n).flatMap gtEnc)]
            rw [base_eq, List.flatMap_append]
            exact S4
          clear S4
          have c1 := hS.out.cell (i := 0) rfl (o := 1) rfl
          go_wp2_with fail
          clear c1
          go_loopw [54, 4, 7] (fun i o cn wr => ∃ (j N : Nat) (ov : Value) (z : Int), j ≤ m ∧ i = .int .i64 (j : Int) ∧ o = ov ∧ cn = .int .i64 z ∧ N ≤ 26 + 1001 * j ∧ Hid ((cnfG n (xss.take j)).1.length = N) ∧ Hid (z = ((cnfG n (xss.take j)).2 : Nat)) ∧ Hid (CiSp w n A m cap (cnfG n (xss.take j)).1 N ov wr)) (fun i _ _ _ => m - (intOf i).toNat)
          case atStart => exact ⟨0, n + n + 2, _, _, Nat.zero_le _, rfl, rfl, rfl, by omega, hlen0, by unfold Hid; show _ = ((2 * n : Nat) : Int); omega, hS⟩
          case round =>
            obtain ⟨j, N, ov, z, hj, rfl, rfl, rfl, hN, hNl, hz, hS⟩ := hrel
            clear hlen0
            obtain ⟨aO, cO, rfl⟩ := own_slice (hS.out.own (i := 1) rfl)
            by_cases hlt : j < m
            · have hji : (j : Int) < m := by omega
              have hjx : j < xss.length := by rw [hme.out]; exact hlt
              obtain ⟨b, off, B, cB, e, hc, hT⟩ := hI2.out.at_ j hjx
              cases e
              have hcl1 := hcl.out _ (List.getElem_mem hjx)
              have hli1 := hlit.out _ (List.getElem_mem hjx)
              have htk := cnfG_take (n := n) hjx
              generalize xss[j] = c at hc hT hcl1 hli1 htk
              have hcw := (hS.out.below.cell (p := ⟨b, off + j, none⟩) (World.block_lt_of_cell? _ _ hc)).trans hc
              have hzc := hz.out
              generalize cnfG n (xss.take j) = s at hNl hS htk hzc
              clear hz hc
              obtain ⟨M, zn⟩ := s
              dsimp only at hNl hS hzc
              obtain ⟨L, hL⟩ : ∃ L, c.length = L := ⟨_, rfl⟩
              rw [hL] at hcl1 hcw
              replace hL := Lib.hid hL
              replace hT := Lib.hid hT
              replace hli1 := Lib.hid hli1
              replace htk := Lib.hid htk
              replace hzc := Lib.hid hzc
              go_wp2_with fail
              clear hcw
              have hl0 : Hid (((c.take 0).foldl (litG n) (M, 2 * n + 1)).1.length = N + 0) := hNl
              go_loopw [61, 4, 11] (fun i o cn wo => ∃ (q : Nat) (ov2 : Value) (z2 : Int), q ≤ L ∧ i = .int .i64 (q : Int) ∧ o = ov2 ∧ cn = .int .i64 z2 ∧ Hid (((c.take q).foldl (litG n) (M, 2 * n + 1)).1.length = N + q) ∧ Hid (z2 = (((c.take q).foldl (litG n) (M, 2 * n + 1)).2 : Nat)) ∧ Hid (CiSp w n (some ⟨b, off, none⟩) m cap ((c.take q).foldl (litG n) (M, 2 * n + 1)).1 (N + q) ov2 wo)) (fun i _ _ _ => L - (intOf i).toNat)
              case atStart => exact ⟨0, _, _, Nat.zero_le _, rfl, rfl, rfl, hl0, by unfold Hid; show _ = ((2 * n + 1 : Nat) : Int); omega, hS⟩
              case round =>
                rename World => wo
                obtain ⟨q, ov2, z2, hq, rfl, rfl, rfl, hl3, hz3, hS3⟩ := hrel
                clear hS hl0
                obtain ⟨aP, cP, rfl⟩ := own_slice (hS3.out.own (i := 1) rfl)
                by_cases hlt2 : q < L
                · have hqi : (q : Int) < L := by omega
                  have hqc : q < c.length := by rw [hL.out]; exact hlt2
                  obtain ⟨bb', ob, e, hd⟩ := hT.out.at_ q hqc
                  cases e
                  have hdw := (hS3.out.below.cell (p := ⟨bb', ob + q, none⟩) (World.block_lt_of_cell? _ _ hd)).trans hd
                  have hln := hli1.out _ (List.getElem_mem hqc)
                  have hst := lits_take (n := n) (M, 2 * n + 1) hqc
                  unfold LitN at hln
                  generalize c[q] = l at hdw hln hst
                  clear hd
                  generalize (c.take q).foldl (litG n) (M, 2 * n + 1) = t at hl3 hz3 hS3 hst
                  obtain ⟨T, zt⟩ := t
                  dsimp only at hl3 hz3 hS3
                  have hst2 : Hid ((c.take (q + 1)).foldl (litG n) (M, 2 * n + 1) = (T ++ [⟨6, (zt : Nat), litIx n l⟩], N + q)) := by
                    unfold Hid
                    rw [hst]
                    unfold litG
                    rw [hl3.out]
                  clear hst
                  have hw1 : IntKind.i64.wrap (l - 1) = l - 1 := IntWalk.i64_in _ (by omega)
                  have hw2 : IntKind.i64.wrap ((n : Int) - l) = (n : Int) - l := IntWalk.i64_in _ (by omega)
                  have hw3 : IntKind.i64.wrap ((n : Int) - l - 1) = (n : Int) - l - 1 := IntWalk.i64_in _ (by omega)
                  have c0 := hS3.out.cell (i := 0) rfl (o := 0) rfl
                  by_cases hneg : l < 0
                  · have hix : Hid (litIx n l = (n : Int) - l - 1) := by unfold Hid litIx; rw [if_pos hneg]
                    have S3 := hS3.out.alloc_box #[.int .i64 6, .int .i64 z2, .int .i64 ((n : Int) - l - 1)] 41
                    have kG0 := S3.cell (i := 0) rfl (o := 0) rfl
                    have kG1 := S3.cell (i := 0) rfl (o := 1) rfl
                    have kG2 := S3.cell (i := 0) rfl (o := 2) rfl
                    replace S3 := Lib.hid S3
                    clear hS3
                    go_wp2_with (at_builtin; refine wpList_append_src rfl _ _ rfl Try.underlying28 hi0 hz0 hz1 hz2 rfl (by decide) _ (N+q) _ rfl (S3.out.own (i := 2) rfl) _ 1 1 [.int .i64 6, .int .i64 z2, .int .i64 ((n : Int) - l - 1)] rfl (Src.threeG kG0 kG1 kG2) (by simp [Value.oneCell']) ?c3 ?c4 ?_)
                    case c3 => unfold maxLen; omega
                    case c4 => omega
                    intro vE wE hownE hgE hatE
                    have S4 := (S3.out.own_push (i := 2) rfl (bb _) hownE hgE (by simpa using hatE)).tail
                    simp only [List.set_cons_zero, List.set_cons_succ] at S4
                    obtain ⟨aE, cE, rfl⟩ := own_slice hownE
                    have hS3 := Lib.hid S4
                    clear S3 S4 kG0 kG1 kG2 hownE hgE hatE
                    clear c0 hdw
                    go_wp2_with fail
                    go_roundw
                    case rel =>
                      refine ⟨q + 1, _, _, by omega, by first | rfl | simp, rfl, rfl, ?_, ?_, ?_⟩
                      · unfold Hid; rw [hst2.out, List.length_append, hl3.out]; rfl
                      · unfold Hid; rw [hst2.out]; omega
                      · unfold Hid CiSp; rw [hst2.out]; dsimp only; rw [flat_snoc, hix.out, ← hz3.out]; exact hS3.out
                    case measure => simp [intOf]; omega
                  · have hix : Hid (litIx n l = l - 1) := by unfold Hid litIx; rw [if_neg hneg]
                    have hneg2 : 0 ≤ l := by omega
                    have S3 := hS3.out.alloc_box #[.int .i64 6, .int .i64 z2, .int .i64 (l - 1)] 41
                    have kG0 := S3.cell (i := 0) rfl (o := 0) rfl
                    have kG1 := S3.cell (i := 0) rfl (o := 1) rfl
                    have kG2 := S3.cell (i := 0) rfl (o := 2) rfl
                    replace S3 := Lib.hid S3
                    clear hS3
                    go_wp2_with (at_builtin; refine wpList_append_src rfl _ _ rfl Try.underlying28 hi0 hz0 hz1 hz2 rfl (by decide) _ (N+q) _ rfl (S3.out.own (i := 2) rfl) _ 1 1 [.int .i64 6, .int .i64 z2, .int .i64 (l - 1)] rfl (Src.threeG kG0 kG1 kG2) (by simp [Value.oneCell']) ?c3 ?c4 ?_)
                    case c3 => unfold maxLen; omega
                    case c4 => omega
                    intro vE wE hownE hgE hatE
                    have S4 := (S3.out.own_push (i := 2) rfl (bb _) hownE hgE (by simpa using hatE)).tail
                    simp only [List.set_cons_zero, List.set_cons_succ] at S4
                    obtain ⟨aE, cE, rfl⟩ := own_slice hownE
                    have hS3 := Lib.hid S4
                    clear S3 S4 kG0 kG1 kG2 hownE hgE hatE
                    clear c0 hdw
                    go_wp2_with fail
                    go_roundw
                    case rel =>
                      refine ⟨q + 1, _, _, by omega, by first | rfl | simp, rfl, rfl, ?_, ?_, ?_⟩
                      · unfold Hid; rw [hst2.out, List.length_append, hl3.out]; rfl
                      · unfold Hid; rw [hst2.out]; omega
                      · unfold Hid CiSp; rw [hst2.out]; dsimp only; rw [flat_snoc, hix.out, ← hz3.out]; exact hS3.out
                    case measure => simp [intOf]; omega
                · obtain rfl : L = q := by omega
                  have hcl2 : Hid ((c.take L).foldl (litG n) (M, 2 * n + 1) = c.foldl (litG n) (M, 2 * n + 1)) := by unfold Hid; rw [List.take_of_length_le (by rw [hL.out]; exact Nat.le_refl _)]
                  rw [hcl2.out] at hl3 hz3 hS3
                  have hst2 : Hid (cnfG n (xss.take (j + 1)) = ((c.foldl (litG n) (M, 2 * n + 1)).1 ++ [⟨5, (zn : Nat), ((c.foldl (litG n) (M, 2 * n + 1)).2 : Nat)⟩], N + L)) := by
                    unfold Hid
                    rw [htk.out]
                    unfold clG
                    rw [hl3.out]
                  clear hcl2 htk hT hli1
                  generalize c.foldl (litG n) (M, 2 * n + 1) = t at hl3 hz3 hS3 hst2
                  obtain ⟨T, zt⟩ := t
                  dsimp only at hl3 hz3 hS3 hst2
                  have S3 := hS3.out.alloc_box #[.int .i64 5, .int .i64 z, .int .i64 z2] 41
                  have kG0 := S3.cell (i := 0) rfl (o := 0) rfl
                  have kG1 := S3.cell (i := 0) rfl (o := 1) rfl
                  have kG2 := S3.cell (i := 0) rfl (o := 2) rfl
                  replace S3 := Lib.hid S3
                  clear hS3
                  go_wp2_with (at_builtin; refine wpList_append_src rfl _ _ rfl Try.underlying28 hi0 hz0 hz1 hz2 rfl (by decide) _ (N+L) _ rfl (S3.out.own (i := 2) rfl) _ 1 1 [.int .i64 5, .int .i64 z, .int .i64 z2] rfl (Src.threeG kG0 kG1 kG2) (by simp [Value.oneCell']) ?c3 ?c4 ?_)
                  case c3 => unfold maxLen; omega
                  case c4 => omega
                  intro vE wE hownE hgE hatE
                  have S4 := (S3.out.own_push (i := 2) rfl (bb _) hownE hgE (by simpa using hatE)).tail
                  simp only [List.set_cons_zero, List.set_cons_succ] at S4
                  obtain ⟨aE, cE, rfl⟩ := own_slice hownE
                  have hS3 := Lib.hid S4
                  clear S3 S4 kG0 kG1 kG2 hownE hgE hatE
                  go_wp2_with fail
                  go_roundw
                  case rel =>
                    refine ⟨j + 1, N + L + 1, _, _, by omega, by first | rfl | simp, rfl, rfl, by omega, ?_, ?_, ?_⟩
                    · unfold Hid; rw [hst2.out, List.length_append, hl3.out]; rfl
                    · unfold Hid; rw [hst2.out]; omega
                    · unfold Hid CiSp; rw [hst2.out]; dsimp only; rw [flat_snoc, ← hz3.out, ← hzc.out]; exact hS3.out
                  case measure => simp [intOf]; omega
            · obtain rfl : m = j := by omega
              rw [show xss.take m = xss from List.take_of_length_le (by rw [hme.out]; exact Nat.le_refl _)] at hNl hS
              have hji : ¬ (m : Int) < m := by omega
              have c1 := hS.out.cell (i := 0) rfl (o := 1) rfl
              clear hz hlit hcl hI2
              by_cases h0 : m = 0
              · subst h0
                obtain rfl : xss = [] := List.length_eq_zero_iff.1 hme.out
                have hR : Hid (circR n [] = (cnfG n []).1 ++ [⟨2, 0, 0⟩]) := rfl
                generalize (cnfG n []).1 = R at hNl hS hR
                have hbi : ¬ (200 : Int) < (N : Int) + 1 := by omega
                have hd : Hid (decide ((circR n []).length ≤ 200) = true) := by
                  unfold Hid
                  rw [hR.out, List.length_append, hNl.out]
                  exact decide_eq_true (by simp; omega)
                have S3 := hS.out.alloc_box #[.int .i64 2, .int .i64 0, .int .i64 0] 41
                have kG0 := S3.cell (i := 0) rfl (o := 0) rfl
                have kG1 := S3.cell (i := 0) rfl (o := 1) rfl
                have kG2 := S3.cell (i := 0) rfl (o := 2) rfl
                replace S3 := Lib.hid S3
                clear hS
                go_wp2_with (at_builtin; refine wpList_append_src rfl _ _ rfl Try.underlying28 hi0 hz0 hz1 hz2 rfl (by decide) _ N _ rfl (S3.out.own (i := 2) rfl) _ 1 1 [.int .i64 2, .int .i64 0, .int .i64 0] rfl (Src.threeG kG0 kG1 kG2) (by simp [Value.oneCell']) ?c3 ?c4 ?_)
                case c3 => unfold maxLen; omega
                case c4 => omega
                intro vE wE hownE hgE hatE
                have S4 := (S3.out.own_push (i := 2) rfl (bb _) hownE hgE (by simpa using hatE)).tail
                simp only [List.set_cons_zero, List.set_cons_succ] at S4
                obtain ⟨aE, cE, rfl⟩ := own_slice hownE
                have hS := Lib.hid S4
                clear S3 S4 kG0 kG1 kG2 hownE hgE hatE
                have hf : Sp w wE [Own 41 3 (.slice aE (N + 1) cE) (R ++ [(⟨2, 0, 0⟩ : Gt)]).length ((R ++ [(⟨2, 0, 0⟩ : Gt)]).flatMap gtEnc)] := by
                  rw [List.length_append, hNl.out, flat_snoc]
                  exact hS.out.pick [1] rfl
                replace hf := Lib.hid hf
                clear hS c1
                go_wp2_with fail
                go_ret2
                rw [hd.out, hR.out]
                exact GOut.yes hf.out
              · have hR : Hid (circR n xss = (cnfG n xss).1) := by
                  unfold Hid circR
                  rw [if_neg (fun e => h0 (by have := hme.out; rw [e] at this; exact this.symm)), List.append_nil]
                generalize (cnfG n xss).1 = R at hNl hS hR
                have hm0 : ((m : Int) == 0) = false := beq_eq_false_iff_ne.2 (by omega)
                have hm1 : decide ((m : Int) = 0) = false := decide_eq_false (by omega)
                by_cases hbig : N ≤ 200
                · have hbi : ¬ (200 : Int) < N := by omega
                  have hd : Hid (decide ((circR n xss).length ≤ 200) = true) := by unfold Hid; rw [hR.out, hNl.out]; exact decide_eq_true hbig
                  have hf : Sp w wr [Own 41 3 (.slice aO N cO) R.length (R.flatMap gtEnc)] := by rw [hNl.out]; exact hS.out.pick [1] rfl
                  replace hf := Lib.hid hf
                  go_wp2_with fail
                  go_ret2
                  rw [hd.out, hR.out]
                  exact GOut.yes hf.out
                · have hbi : (200 : Int) < N := by omega
                  have hd : Hid (decide ((circR n xss).length ≤ 200) = false) := by unfold Hid; rw [hR.out, hNl.out]; exact decide_eq_false hbig
                  have hB := Lib.hid hS.out.below
                  go_wp2_with fail
                  go_ret2
                  rw [hd.out]
                  exact GOut.no hB.out

set_option maxRecDepth 100000 in
set_option maxHeartbeats 4000000 in
theorem circuitOf_no (vars : Int) (v : Value) (xss : List (List Int)) (F : List Nat) (w : World) (hx : (Ty.slice Ty.int).row false w v xss F) (h1 : goodB vars xss = false) :
    Calls Try.prog 8 #[.agg #[.int .i64 vars, v]] w (GOut w false (circR vars.toNat xss)) := by
  obtain ⟨A, cap, rfl, hI⟩ := cls_row hx
  have S0 := (Sp.start w).alloc_box #[.int .i64 vars, .slice A xss.length cap] 26
  have hcall0 := implIsCnf_any vars _ xss F _ (Ty.row_below hx S0.below (Ty.row_lt hx))
  rw [h1] at hcall0
  replace hcall0 := Lib.hid hcall0
  replace S0 := Lib.hid S0
  clear hx hI
  go_enter Try.func8, Try.ntmps8
  go_wp2_with fail
  refine hcall0.out.mono ?_
  rintro e w1 ⟨rfl, hb1⟩
  have hB := Lib.hid (btr S0.out.below hb1)
  go_wp2_with fail
  go_ret2
  exact GOut.no hB.out
end Go.Proofs.Ytkhopkonddgicaa

/- Contracts: the constants of the reference; equal rows of gates. -/
namespace Go.Proofs.Ytkhopkonddgicaa
open Go.RowKit

set_option maxRecDepth 100000 in
theorem l6Constant_any (q : Bool) (w : World) : Calls Try.prog 77 #[.bool q] w fun e w' => e = .returned (gtV ⟨if q then 2 else 3, 0, 0⟩) ∧ Below w.heap.size w w' := by
  cases q
  · have S5 := (Sp.start w).alloc_box #[.int .i64 3, .int .i64 0, .int .i64 0] 41
    have j0 := S5.cell (i := 0) rfl (o := 0) rfl
    have j1 := S5.cell (i := 0) rfl (o := 1) rfl
    have j2 := S5.cell (i := 0) rfl (o := 2) rfl
    have hB := S5.below
    clear S5
    go_enter Try.func77, Try.ntmps77
    go_wp2_with fail
    exact bodyPost_ret (v := gtV ⟨3, 0, 0⟩) (by simp [results, Try.results77, go_sem, j0, j1, j2]) rfl ⟨rfl, hB⟩
  · have S5 := (Sp.start w).alloc_box #[.int .i64 2, .int .i64 0, .int .i64 0] 41
    have j0 := S5.cell (i := 0) rfl (o := 0) rfl
    have j1 := S5.cell (i := 0) rfl (o := 1) rfl
    have j2 := S5.cell (i := 0) rfl (o := 2) rfl
    have hB := S5.below
    clear S5
    go_enter Try.func77, Try.ntmps77
    go_wp2_with fail
    exact bodyPost_ret (v := gtV ⟨2, 0, 0⟩) (by simp [results, Try.results77, go_sem, j0, j1, j2]) rfl ⟨rfl, hB⟩

set_option maxRecDepth 100000 in
set_option maxHeartbeats 4000000 in
theorem rGates_same (A B : Option Addr) (c d : Nat) (gs : List Gt) (w : World) (hx : GtAt w A gs) (hy : GtAt w B gs) (hl : gs.length ≤ 1000000) :
    Calls Try.prog 10 #[.slice A gs.length c, .slice B gs.length d] w fun e w' => e = .returned (.bool true) ∧ Below w.heap.size w w' := by
  have hX := Lib.hid hx
  have hY := Lib.hid hy
  have hB0 : Hid (Below w.heap.size w w) := Lib.hid (bb w)
  have hst := gt_held
  have hgu := gt_guard
  clear hx hy
  go_enter Try.func10, Try.ntmps10
  go_wp2_with fail
  go_loopw [5] (fun i wr => ∃ k : Nat, k ≤ gs.length ∧ i = .int .i64 k ∧ Hid (Below w.heap.size w wr)) (fun i _ => gs.length - (intOf i).toNat)
  case atStart => exact ⟨0, Nat.zero_le _, rfl, hB0⟩
  case round =>
    obtain ⟨k, hk, rfl, HB⟩ := hrel
    by_cases hlt : k < gs.length
    · obtain ⟨b, off, rfl, m0, m1, m2⟩ := (hX.out.grow HB.out).at_ k hlt
      obtain ⟨b2, off2, rfl, n0, n1, n2⟩ := (hY.out.grow HB.out).at_ k hlt
      have k0 := cell_regrown m0
      have k1 := cell_regrown m1
      have k2 := cell_regrown m2
      have l0 := cell_regrown n0
      have l1 := cell_regrown n1
      have l2 := cell_regrown n2
      generalize gs[k] = m at *
      obtain ⟨v', lo', hi'⟩ := m
      dsimp only at *
      clear m0 m1 m2 n0 n1 n2
      go_wp2_with fail
      refine wp_region_quiet_below (by kernel_rfl) (by kernel_rfl) ?_
      repeat (any_goals (go_big_quiet_step (fail)))
      refine wpQuiet_nil ?_
      rintro w1 ⟨p, rfl⟩
      have HB2 := Lib.hid (btr HB.out (below_regrown _ p.d p.os))
      clear HB k0 k1 k2 l0 l1 l2
      go_wp2_with fail
      go_roundw
      case rel => exact ⟨k + 1, by omega, by go_num, HB2⟩
      case measure => simp [intOf]; omega
    · obtain rfl : k = gs.length := by omega
      go_wp2_with fail
      go_ret
      exact ⟨rfl, HB.out⟩
end Go.Proofs.Ytkhopkonddgicaa

/- Contract: the circuit of a Cnf, in the reference. -/
namespace Go.Proofs.Ytkhopkonddgicaa
open Go.RowKit

set_option maxRecDepth 100000 in
set_option maxHeartbeats 16000000 in
theorem l6OfCnf_any (n : Nat) (v : Value) (xss : List (List Int)) (F : List Nat) (w : World) (hx : (Ty.slice Ty.int).row false w v xss F) (h1 : goodB n xss = true) :
    Calls Try.prog 41 #[.agg #[.int .i64 n, v]] w fun e w' => ∃ u, e = .returned u ∧ Sp w w' [Own 41 3 u (circR n xss).length ((circR n xss).flatMap gtEnc)] := by
  obtain ⟨i0, hi0, hz0, hz1, hz2⟩ := info_parts infoGt
  obtain ⟨A, cap, rfl, hI⟩ := cls_row hx
  have hg := good_cnf h1
  have hn : n ≤ 12 := by omega
  have hm := hg.2.1
  have hcl : Hid (∀ c ∈ xss, c.length ≤ 1000) := fun c hc => (hg.2.2.2 c hc).2
  have hlit := Lib.hid (good_lits h1)
  have S0 := (Sp.start w).alloc_box #[.int .i64 n, .slice A xss.length cap] 26
  have hI2 := Lib.hid hI
  have hn0 : (0 : Int) ≤ n := by omega
  replace S0 := Lib.hid S0
  obtain ⟨m, hme⟩ : ∃ m, xss.length = m := ⟨_, rfl⟩
  rw [hme] at S0 hm
  clear hx hI hg
  rw [hme]
  replace hme := Lib.hid hme
  have S1 := (S0.out.own_made 41 3).pick [1, 0] rfl
  simp only [World.size_alloc] at S1
  replace S1 := Lib.hid S1
  clear S0
  go_enter Try.func41, Try.ntmps41
  go_wp2_with fail
  go_loopw [4, 3] (fun i o wr => ∃ (j : Nat) (ov : Value), j ≤ n ∧ i = .int .i64 ((j : Int) + 1) ∧ o = ov ∧ Hid (CiSp w n A m cap (base1 j) j ov wr)) (fun i _ _ => n + 1 - (intOf i).toNat)
  case atStart => exact ⟨0, _, Nat.zero_le _, rfl, rfl, S1⟩
  case round =>
    obtain ⟨j, ov, hj, rfl, rfl, hS⟩ := hrel
    clear S1
    have c0 := hS.out.cell (i := 0) rfl (o := 0) rfl
    obtain ⟨aO, cO, rfl⟩ := own_slice (hS.out.own (i := 1) rfl)
    by_cases hlt : j < n
    · have hji : ((j : Int) + 1) ≤ n := by omega
      have hw : IntKind.i64.wrap ((j : Int) + 1 + 1) = (j : Int) + 1 + 1 := IntWalk.i64_in _ (by omega)
      have S3 := hS.out.alloc_box #[.int .i64 1, .int .i64 ((j : Int) + 1), .int .i64 0] 41
      have kG0 := S3.cell (i := 0) rfl (o := 0) rfl
      have kG1 := S3.cell (i := 0) rfl (o := 1) rfl
      have kG2 := S3.cell (i := 0) rfl (o := 2) rfl
      replace S3 := Lib.hid S3
      clear hS
      go_wp2_with (at_builtin; refine wpList_append_src rfl _ _ rfl Try.underlying28 hi0 hz0 hz1 hz2 rfl (by decide) _ j _ rfl (S3.out.own (i := 2) rfl) _ 1 1 [.int .i64 1, .int .i64 ((j : Int) + 1), .int .i64 0] rfl (Src.threeG kG0 kG1 kG2) (by simp [Value.oneCell']) ?c3 ?c4 ?_)
      case c3 => unfold maxLen; omega
      case c4 => omega
      intro vE wE hownE hgE hatE
      have S4 := (S3.out.own_push (i := 2) rfl (bb _) hownE hgE (by simpa using hatE)).tail
      simp only [List.set_cons_zero, List.set_cons_succ] at S4
      obtain ⟨aE, cE, rfl⟩ := own_slice hownE
      have hS := Lib.hid S4
      clear S3 S4 kG0 kG1 kG2 hownE hgE hatE
      clear c0
      go_wp2_with fail
      go_roundw
      case rel =>
        refine ⟨j + 1, _, by omega, by first | rfl | simp, rfl, ?_⟩
        unfold Hid CiSp
        rw [base1_succ, flat_snoc]
        exact hS.out
      case measure => simp [intOf]; omega
    · obtain rfl : n = j := by omega
      have hji : ¬ ((n : Int) + 1) ≤ n := by omega
      go_wp2_with fail
      clear hji hlt
      go_loopw [5, 3] (fun i o wr => ∃ (j : Nat) (ov : Value), j ≤ n ∧ i = .int .i64 ((j : Int) + 1) ∧ o = ov ∧ Hid (CiSp w n A m cap (base2 n j) (n + j) ov wr)) (fun i _ _ => n + 1 - (intOf i).toNat)
      case atStart => exact ⟨0, _, Nat.zero_le _, rfl, rfl, by unfold Hid; rw [base2_zero]; exact hS.out⟩
      case round =>
        obtain ⟨j, ov, hj, rfl, rfl, hS⟩ := hrel
        clear c0
        have c0 := hS.out.cell (i := 0) rfl (o := 0) rfl
        obtain ⟨aO, cO, rfl⟩ := own_slice (hS.out.own (i := 1) rfl)
        by_cases hlt : j < n
        · have hji : ((j : Int) + 1) ≤ n := by omega
          have hw : IntKind.i64.wrap ((j : Int) + 1 + 1) = (j : Int) + 1 + 1 := IntWalk.i64_in _ (by omega)
          have hw2 : IntKind.i64.wrap ((j : Int) + 1 - 1) = (j : Int) := by rw [show (j : Int) + 1 - 1 = j by omega]; exact IntWalk.i64_in _ (by omega)
          have S3 := hS.out.alloc_box #[.int .i64 4, .int .i64 (j : Int), .int .i64 0] 41
          have kG0 := S3.cell (i := 0) rfl (o := 0) rfl
          have kG1 := S3.cell (i := 0) rfl (o := 1) rfl
          have kG2 := S3.cell (i := 0) rfl (o := 2) rfl
          replace S3 := Lib.hid S3
          clear hS
          go_wp2_with (at_builtin; refine wpList_append_src rfl _ _ rfl Try.underlying28 hi0 hz0 hz1 hz2 rfl (by decide) _ (n+j) _ rfl (S3.out.own (i := 2) rfl) _ 1 1 [.int .i64 4, .int .i64 (j : Int), .int .i64 0] rfl (Src.threeG kG0 kG1 kG2) (by simp [Value.oneCell']) ?c3 ?c4 ?_)
          case c3 => unfold maxLen; omega
          case c4 => omega
          intro vE wE hownE hgE hatE
          have S4 := (S3.out.own_push (i := 2) rfl (bb _) hownE hgE (by simpa using hatE)).tail
          simp only [List.set_cons_zero, List.set_cons_succ] at S4
          obtain ⟨aE, cE, rfl⟩ := own_slice hownE
          have hS := Lib.hid S4
          clear S3 S4 kG0 kG1 kG2 hownE hgE hatE
          clear c0
          go_wp2_with fail
          go_roundw
          case rel =>
            refine ⟨j + 1, _, by omega, by first | rfl | simp, rfl, ?_⟩
            unfold Hid CiSp
            rw [base2_succ, flat_snoc]
            exact hS.out
          case measure => simp [intOf]; omega
        · obtain rfl : n = j := by omega
          have hji : ¬ ((n : Int) + 1) ≤ n := by omega
          go_wp2_with fail
          refine (l6Constant_any true _).mono ?_
          rintro e w2 ⟨rfl, hb2⟩
          replace hS := Lib.hid (hS.out.grow hb2)
          clear hb2
          go_wp2_with fail
          refine (l6Constant_any false _).mono ?_
          rintro e w3 ⟨rfl, hb3⟩
          replace hS := Lib.hid (hS.out.grow hb3)
          clear hb3
          have S3 := hS.out.alloc_box #[.int .i64 2, .int .i64 0, .int .i64 0, .int .i64 3, .int .i64 0, .int .i64 0] 41
          have kG0 := S3.cell (i := 0) rfl (o := 0) rfl
          have kG1 := S3.cell (i := 0) rfl (o := 1) rfl
          have kG2 := S3.cell (i := 0) rfl (o := 2) rfl
          have kG3 := S3.cell (i := 0) rfl (o := 3) rfl
          have kG4 := S3.cell (i := 0) rfl (o := 4) rfl
          have kG5 := S3.cell (i := 0) rfl (o := 5) rfl
          replace S3 := Lib.hid S3
          clear hS
          go_wp2_with (at_builtin; refine wpList_append_src rfl _ _ rfl Try.underlying28 hi0 hz0 hz1 hz2 rfl (by decide) _ (n+n) _ rfl (S3.out.own (i := 2) rfl) _ 2 2 [.int .i64 2, .int .i64 0, .int .i64 0, .int .i64 3, .int .i64 0, .int .i64 0] rfl (Src.sixG kG0 kG1 kG2 kG3 kG4 kG5) (by simp [Value.oneCell']) ?c3 ?c4 ?_)
          case c3 => unfold maxLen; omega
          case c4 => omega
          intro vE wE hownE hgE hatE
          have S4 := (S3.out.own_push (i := 2) rfl (bb _) hownE hgE (by simpa using hatE)).tail
          simp only [List.set_cons_zero, List.set_cons_succ] at S4
          obtain ⟨aE, cE, rfl⟩ := own_slice hownE
          clear S3 hownE hgE hatE kG0 kG1 kG2 kG3 kG4 kG5 hji hlt c0
          have hlen0 : Hid ((cnfG n (xss.take 0)).1.length = n + n + 2) := by
            unfold Hid
            show (baseG n).length = _
            rw [base_len]
            omega
          have hS : Hid (CiSp w n A m cap (cnfG n (xss.take 0)).1 (n + n + 2) (.slice aE (n + n + 2) cE) wE) := by
            unfold Hid CiSp
            show Sp w wE [_, Own _ _ _ _ ((baseG n).flatMap gtEnc)]
            rw [base_eq, List.flatMap_append]
            exact S4
          clear S4
          have c0 := hS.out.cell (i := 0) rfl (o := 0) rfl
          have hm1 : IntKind.i64.wrap (2 * (n : Int)) = 2 * (n : Int) := IntWalk.i64_in _ (by omega)
          have hm2 : IntKind.i64.wrap (2 * (n : Int) + 1) = 2 * (n : Int) + 1 := IntWalk.i64_in _ (by omega)
          go_wp2_with fail
          go_region
          replace hS := Lib.hid hS.out.drew
          clear c0 hm1 hm2
          go_wp2_with fail
          go_loopw [8, 3, 6] (fun i o cn wr => ∃ (j N : Nat) (ov : Value) (z : Int), j ≤ m ∧ i = .int .i64 (j : Int) ∧ o = ov ∧ cn = .int .i64 z ∧ N ≤ 26 + 1001 * j ∧ Hid ((cnfG n (xss.take j)).1.length = N) ∧ Hid (z = ((cnfG n (xss.take j)).2 : Nat)) ∧ Hid (CiSp w n A m cap (cnfG n (xss.take j)).1 N ov wr)) (fun i _ _ _ => m - (intOf i).toNat)
          case atStart => exact ⟨0, n + n + 2, _, _, Nat.zero_le _, rfl, rfl, rfl, by omega, hlen0, by unfold Hid; show _ = ((2 * n : Nat) : Int); omega, hS⟩
          case round =>
            obtain ⟨j, N, ov, z, hj, rfl, rfl, rfl, hN, hNl, hz, hS⟩ := hrel
            clear hlen0
            obtain ⟨aO, cO, rfl⟩ := own_slice (hS.out.own (i := 1) rfl)
            by_cases hlt : j < m
            · have hji : (j : Int) < m := by omega
              have hjx : j < xss.length := by rw [hme.out]; exact hlt
              obtain ⟨b, off, B, cB, e, hc, hT⟩ := hI2.out.at_ j hjx
              cases e
              have hcl1 := hcl.out _ (List.getElem_mem hjx)
              have hli1 := hlit.out _ (List.getElem_mem hjx)
              have htk := cnfG_take (n := n) hjx
              generalize xss[j] = c at hc hT hcl1 hli1 htk
              have hcw := (hS.out.below.cell (p := ⟨b, off + j, none⟩) (World.block_lt_of_cell? _ _ hc)).trans hc
              have hzc := hz.out
              generalize cnfG n (xss.take j) = s at hNl hS htk hzc
              clear hz
              obtain ⟨M, zn⟩ := s
              dsimp only at hNl hS hzc
              obtain ⟨L, hL⟩ : ∃ L, c.length = L := ⟨_, rfl⟩
              rw [hL] at hcl1 hcw
              replace hL := Lib.hid hL
              replace hT := Lib.hid hT
              replace hli1 := Lib.hid hli1
              replace htk := Lib.hid htk
              replace hzc := Lib.hid hzc
              have c1 := hS.out.cell (i := 0) rfl (o := 1) rfl
              go_wp2_with fail
              clear hcw c1
              have hl0 : Hid (((c.take 0).foldl (litG n) (M, 2 * n + 1)).1.length = N + 0) := hNl
              go_loopw [10, 3, 9] (fun i o cn wo => ∃ (q : Nat) (ov2 : Value) (z2 : Int), q ≤ L ∧ i = .int .i64 (q : Int) ∧ o = ov2 ∧ cn = .int .i64 z2 ∧ Hid (((c.take q).foldl (litG n) (M, 2 * n + 1)).1.length = N + q) ∧ Hid (z2 = (((c.take q).foldl (litG n) (M, 2 * n + 1)).2 : Nat)) ∧ Hid (CiSp w n (some ⟨b, off, none⟩) m cap ((c.take q).foldl (litG n) (M, 2 * n + 1)).1 (N + q) ov2 wo)) (fun i _ _ _ => L - (intOf i).toNat)
              case atStart => exact ⟨0, _, _, Nat.zero_le _, rfl, rfl, rfl, hl0, by unfold Hid; show _ = ((2 * n + 1 : Nat) : Int); omega, hS⟩
              case round =>
                rename World => wo
                obtain ⟨q, ov2, z2, hq, rfl, rfl, rfl, hl3, hz3, hS3⟩ := hrel
                clear hS hl0
                have hcw := (hS3.out.below.cell (p := ⟨b, off + j, none⟩) (World.block_lt_of_cell? _ _ hc)).trans hc
                rw [hL.out] at hcw
                have c1 := hS3.out.cell (i := 0) rfl (o := 1) rfl
                obtain ⟨aP, cP, rfl⟩ := own_slice (hS3.out.own (i := 1) rfl)
                by_cases hlt2 : q < L
                · have hqi : (q : Int) < L := by omega
                  have hqc : q < c.length := by rw [hL.out]; exact hlt2
                  obtain ⟨bb', ob, e, hd⟩ := hT.out.at_ q hqc
                  cases e
                  have hdw := (hS3.out.below.cell (p := ⟨bb', ob + q, none⟩) (World.block_lt_of_cell? _ _ hd)).trans hd
                  have hln := hli1.out _ (List.getElem_mem hqc)
                  have hst := lits_take (n := n) (M, 2 * n + 1) hqc
                  unfold LitN at hln
                  generalize c[q] = l at hdw hln hst
                  clear hd
                  generalize (c.take q).foldl (litG n) (M, 2 * n + 1) = t at hl3 hz3 hS3 hst
                  obtain ⟨T, zt⟩ := t
                  dsimp only at hl3 hz3 hS3
                  have hst2 : Hid ((c.take (q + 1)).foldl (litG n) (M, 2 * n + 1) = (T ++ [⟨6, (zt : Nat), litIx n l⟩], N + q)) := by
                    unfold Hid
                    rw [hst]
                    unfold litG
                    rw [hl3.out]
                  clear hst
                  have hw1 : IntKind.i64.wrap (l - 1) = l - 1 := IntWalk.i64_in _ (by omega)
                  have hw2 : IntKind.i64.wrap ((n : Int) - l) = (n : Int) - l := IntWalk.i64_in _ (by omega)
                  have hw3 : IntKind.i64.wrap ((n : Int) - l - 1) = (n : Int) - l - 1 := IntWalk.i64_in _ (by omega)
                  have c0 := hS3.out.cell (i := 0) rfl (o := 0) rfl
                  by_cases hneg : l < 0
                  · have hix : Hid (litIx n l = (n : Int) - l - 1) := by unfold Hid litIx; rw [if_pos hneg]
                    have S3 := hS3.out.alloc_box #[.int .i64 6, .int .i64 z2, .int .i64 ((n : Int) - l - 1)] 41
                    have kG0 := S3.cell (i := 0) rfl (o := 0) rfl
                    have kG1 := S3.cell (i := 0) rfl (o := 1) rfl
                    have kG2 := S3.cell (i := 0) rfl (o := 2) rfl
                    replace S3 := Lib.hid S3
                    clear hS3
                    go_wp2_with (at_builtin; refine wpList_append_src rfl _ _ rfl Try.underlying28 hi0 hz0 hz1 hz2 rfl (by decide) _ (N+q) _ rfl (S3.out.own (i := 2) rfl) _ 1 1 [.int .i64 6, .int .i64 z2, .int .i64 ((n : Int) - l - 1)] rfl (Src.threeG kG0 kG1 kG2) (by simp [Value.oneCell']) ?c3 ?c4 ?_)
                    case c3 => unfold maxLen; omega
                    case c4 => omega
                    intro vE wE hownE hgE hatE
                    have S4 := (S3.out.own_push (i := 2) rfl (bb _) hownE hgE (by simpa using hatE)).tail
                    simp only [List.set_cons_zero, List.set_cons_succ] at S4
                    obtain ⟨aE, cE, rfl⟩ := own_slice hownE
                    have hS3 := Lib.hid S4
                    clear S3 S4 kG0 kG1 kG2 hownE hgE hatE
                    clear c0 hdw
                    go_wp2_with fail
                    go_roundw
                    case rel =>
                      refine ⟨q + 1, _, _, by omega, by first | rfl | simp, rfl, rfl, ?_, ?_, ?_⟩
                      · unfold Hid; rw [hst2.out, List.length_append, hl3.out]; rfl
                      · unfold Hid; rw [hst2.out]; omega
                      · unfold Hid CiSp; rw [hst2.out]; dsimp only; rw [flat_snoc, hix.out, ← hz3.out]; exact hS3.out
                    case measure => simp [intOf]; omega
                  · have hix : Hid (litIx n l = l - 1) := by unfold Hid litIx; rw [if_neg hneg]
                    have hneg2 : 0 ≤ l := by omega
                    have S3 := hS3.out.alloc_box #[.int .i64 6, .int .i64 z2, .int .i64 (l - 1)] 41
                    have kG0 := S3.cell (i := 0) rfl (o := 0) rfl
                    have kG1 := S3.cell (i := 0) rfl (o := 1) rfl
                    have kG2 := S3.cell (i := 0) rfl (o := 2) rfl
                    replace S3 := Lib.hid S3
                    clear hS3
                    go_wp2_with (at_builtin; refine wpList_append_src rfl _ _ rfl Try.underlying28 hi0 hz0 hz1 hz2 rfl (by decide) _ (N+q) _ rfl (S3.out.own (i := 2) rfl) _ 1 1 [.int .i64 6, .int .i64 z2, .int .i64 (l - 1)] rfl (Src.threeG kG0 kG1 kG2) (by simp [Value.oneCell']) ?c3 ?c4 ?_)
                    case c3 => unfold maxLen; omega
                    case c4 => omega
                    intro vE wE hownE hgE hatE
                    have S4 := (S3.out.own_push (i := 2) rfl (bb _) hownE hgE (by simpa using hatE)).tail
                    simp only [List.set_cons_zero, List.set_cons_succ] at S4
                    obtain ⟨aE, cE, rfl⟩ := own_slice hownE
                    have hS3 := Lib.hid S4
                    clear S3 S4 kG0 kG1 kG2 hownE hgE hatE
                    clear c0 hdw
                    go_wp2_with fail
                    go_roundw
                    case rel =>
                      refine ⟨q + 1, _, _, by omega, by first | rfl | simp, rfl, rfl, ?_, ?_, ?_⟩
                      · unfold Hid; rw [hst2.out, List.length_append, hl3.out]; rfl
                      · unfold Hid; rw [hst2.out]; omega
                      · unfold Hid CiSp; rw [hst2.out]; dsimp only; rw [flat_snoc, hix.out, ← hz3.out]; exact hS3.out
                    case measure => simp [intOf]; omega
                · obtain rfl : L = q := by omega
                  have hcl2 : Hid ((c.take L).foldl (litG n) (M, 2 * n + 1) = c.foldl (litG n) (M, 2 * n + 1)) := by unfold Hid; rw [List.take_of_length_le (by rw [hL.out]; exact Nat.le_refl _)]
                  rw [hcl2.out] at hl3 hz3 hS3
                  have hst2 : Hid (cnfG n (xss.take (j + 1)) = ((c.foldl (litG n) (M, 2 * n + 1)).1 ++ [⟨5, (zn : Nat), ((c.foldl (litG n) (M, 2 * n + 1)).2 : Nat)⟩], N + L)) := by
                    unfold Hid
                    rw [htk.out]
                    unfold clG
                    rw [hl3.out]
                  clear hcl2 htk hT hli1
                  generalize c.foldl (litG n) (M, 2 * n + 1) = t at hl3 hz3 hS3 hst2
                  obtain ⟨T, zt⟩ := t
                  dsimp only at hl3 hz3 hS3 hst2
                  have S3 := hS3.out.alloc_box #[.int .i64 5, .int .i64 z, .int .i64 z2] 41
                  have kG0 := S3.cell (i := 0) rfl (o := 0) rfl
                  have kG1 := S3.cell (i := 0) rfl (o := 1) rfl
                  have kG2 := S3.cell (i := 0) rfl (o := 2) rfl
                  replace S3 := Lib.hid S3
                  clear hS3
                  go_wp2_with (at_builtin; refine wpList_append_src rfl _ _ rfl Try.underlying28 hi0 hz0 hz1 hz2 rfl (by decide) _ (N+L) _ rfl (S3.out.own (i := 2) rfl) _ 1 1 [.int .i64 5, .int .i64 z, .int .i64 z2] rfl (Src.threeG kG0 kG1 kG2) (by simp [Value.oneCell']) ?c3 ?c4 ?_)
                  case c3 => unfold maxLen; omega
                  case c4 => omega
                  intro vE wE hownE hgE hatE
                  have S4 := (S3.out.own_push (i := 2) rfl (bb _) hownE hgE (by simpa using hatE)).tail
                  simp only [List.set_cons_zero, List.set_cons_succ] at S4
                  obtain ⟨aE, cE, rfl⟩ := own_slice hownE
                  have hS3 := Lib.hid S4
                  clear S3 S4 kG0 kG1 kG2 hownE hgE hatE
                  go_wp2_with fail
                  go_roundw
                  case rel =>
                    refine ⟨j + 1, N + L + 1, _, _, by omega, by first | rfl | simp, rfl, rfl, by omega, ?_, ?_, ?_⟩
                    · unfold Hid; rw [hst2.out, List.length_append, hl3.out]; rfl
                    · unfold Hid; rw [hst2.out]; omega
                    · unfold Hid CiSp; rw [hst2.out]; dsimp only; rw [flat_snoc, ← hz3.out, ← hzc.out]; exact hS3.out
                  case measure => simp [intOf]; omega
            · obtain rfl : m = j := by omega
              rw [show xss.take m = xss from List.take_of_length_le (by rw [hme.out]; exact Nat.le_refl _)] at hNl hS
              have hji : ¬ (m : Int) < m := by omega
              have c1 := hS.out.cell (i := 0) rfl (o := 1) rfl
              clear hz hlit hcl hI2
              by_cases h0 : m = 0
              · subst h0
                obtain rfl : xss = [] := List.length_eq_zero_iff.1 hme.out
                have hR : Hid (circR n [] = (cnfG n []).1 ++ [⟨2, 0, 0⟩]) := rfl
                generalize (cnfG n []).1 = R at hNl hS hR
                go_wp2_with fail
                refine (l6Constant_any true _).mono ?_
                rintro e w4 ⟨rfl, hb4⟩
                replace hS := Lib.hid (hS.out.grow hb4)
                clear hb4 c1
                have S3 := hS.out.alloc_box #[.int .i64 2, .int .i64 0, .int .i64 0] 41
                have kG0 := S3.cell (i := 0) rfl (o := 0) rfl
                have kG1 := S3.cell (i := 0) rfl (o := 1) rfl
                have kG2 := S3.cell (i := 0) rfl (o := 2) rfl
                replace S3 := Lib.hid S3
                clear hS
                go_wp2_with (at_builtin; refine wpList_append_src rfl _ _ rfl Try.underlying28 hi0 hz0 hz1 hz2 rfl (by decide) _ N _ rfl (S3.out.own (i := 2) rfl) _ 1 1 [.int .i64 2, .int .i64 0, .int .i64 0] rfl (Src.threeG kG0 kG1 kG2) (by simp [Value.oneCell']) ?c3 ?c4 ?_)
                case c3 => unfold maxLen; omega
                case c4 => omega
                intro vE wE hownE hgE hatE
                have S4 := (S3.out.own_push (i := 2) rfl (bb _) hownE hgE (by simpa using hatE)).tail
                simp only [List.set_cons_zero, List.set_cons_succ] at S4
                obtain ⟨aE, cE, rfl⟩ := own_slice hownE
                have hS := Lib.hid S4
                clear S3 S4 kG0 kG1 kG2 hownE hgE hatE
                have hf : Sp w wE [Own 41 3 (.slice aE (N + 1) cE) (R ++ [(⟨2, 0, 0⟩ : Gt)]).length ((R ++ [(⟨2, 0, 0⟩ : Gt)]).flatMap gtEnc)] := by
                  rw [List.length_append, hNl.out, flat_snoc]
                  exact hS.out.pick [1] rfl
                replace hf := Lib.hid hf
                clear hS
                go_wp2_with fail
                go_ret
                rw [hR.out]
                exact ⟨_, rfl, hf.out⟩
              · have hR : Hid (circR n xss = (cnfG n xss).1) := by
                  unfold Hid circR
                  rw [if_neg (fun e => h0 (by have := hme.out; rw [e] at this; exact this.symm)), List.append_nil]
                generalize (cnfG n xss).1 = R at hNl hS hR
                have hm0 : ((m : Int) == 0) = false := beq_eq_false_iff_ne.2 (by omega)
                have hm1 : decide ((m : Int) = 0) = false := decide_eq_false (by omega)
                have hf : Sp w wr [Own 41 3 (.slice aO N cO) R.length (R.flatMap gtEnc)] := by rw [hNl.out]; exact hS.out.pick [1] rfl
                replace hf := Lib.hid hf
                go_wp2_with fail
                go_ret
                rw [hR.out]
                exact ⟨_, rfl, hf.out⟩

set_option maxRecDepth 100000 in
set_option maxHeartbeats 8000000 in
theorem specCircuitOf_any (vars : Int) (v : Value) (xss : List (List Int)) (F : List Nat) (w : World) (hx : (Ty.slice Ty.int).row false w v xss F) :
    Calls Try.prog 9 #[.agg #[.int .i64 vars, v]] w (GOut w (goodB vars xss && decide ((circR vars.toNat xss).length ≤ 200)) (circR vars.toNat xss)) := by
  obtain ⟨A, cap, rfl, hI⟩ := cls_row hx
  have S0 := (Sp.start w).alloc_box #[.int .i64 vars, .slice A xss.length cap] 26
  have hcall0 := l2Good_any vars _ xss F _ (Ty.row_below hx S0.below (Ty.row_lt hx))
  cases hq : goodB vars xss
  · rw [hq] at hcall0
    rw [Bool.false_and]
    have S1 := S0
    replace hcall0 := Lib.hid hcall0
    replace S0 := Lib.hid S0
    clear hx hI
    go_enter Try.func9, Try.ntmps9
    go_wp2_with fail
    refine hcall0.out.mono ?_
    rintro e w1 ⟨rfl, hb1⟩
    have S2 := Lib.hid ((S0.out.grow hb1).own_made 41 3)
    go_wp2_with fail
    go_ret2
    exact ⟨_, rfl, S2.out.pick [0] rfl⟩
  · rw [hq] at hcall0
    rw [Bool.true_and]
    obtain ⟨n, rfl⟩ : ∃ n : Nat, vars = n := ⟨vars.toNat, by have := good_cnf hq; omega⟩
    rw [Int.toNat_natCast]
    have hsp := Lib.hid (fun W (h : Below w.heap.size w W) => l6OfCnf_any n _ xss F W (Ty.row_below hx h (Ty.row_lt hx)) hq)
    replace hcall0 := Lib.hid hcall0
    replace S0 := Lib.hid S0
    clear hx hI
    go_enter Try.func9, Try.ntmps9
    go_wp2_with fail
    refine hcall0.out.mono ?_
    rintro e w1 ⟨rfl, hb1⟩
    have S1 := S0.out.grow hb1
    have c0 := S1.cell (i := 0) rfl (o := 0) rfl
    have c1 := S1.cell (i := 0) rfl (o := 1) rfl
    have hs2 := Lib.hid (hsp.out _ S1.below)
    replace S1 := Lib.hid (Sp.of_below S1.below)
    clear hsp S0 hcall0 hb1
    go_wp2_with fail
    refine hs2.out.mono ?_
    rintro e w2 ⟨u, rfl, S3⟩
    obtain ⟨aO, cO, rfl⟩ := own_slice (S3.own (i := 0) rfl)
    have S4 := Lib.hid (S1.out.seq S3)
    clear hs2 S1 S3 c0 c1
    generalize circR n xss = R at *
    by_cases hbig : R.length ≤ 200
    · have hbi : ¬ (200 : Int) < R.length := by omega
      have hd : Hid (decide (R.length ≤ 200) = true) := decide_eq_true hbig
      go_wp2_with fail
      go_ret2
      rw [hd.out]
      exact GOut.yes (S4.out.pick [0] rfl)
    · have hbi : (200 : Int) < R.length := by omega
      have hd : Hid (decide (R.length ≤ 200) = false) := decide_eq_false hbig
      have S5 := Lib.hid ((Sp.of_below S4.out.below).own_made 41 3)
      go_wp2_with fail
      go_ret2
      rw [hd.out]
      exact ⟨_, rfl, S5.out⟩

theorem implCircuitOf_any (vars : Int) (v : Value) (xss : List (List Int)) (F : List Nat) (w : World) (hx : (Ty.slice Ty.int).row false w v xss F) :
    Calls Try.prog 8 #[.agg #[.int .i64 vars, v]] w (GOut w (goodB vars xss && decide ((circR vars.toNat xss).length ≤ 200)) (circR vars.toNat xss)) := by
  cases hq : goodB vars xss
  · rw [Bool.false_and]
    exact circuitOf_no vars v xss F w hx hq
  · rw [Bool.true_and]
    obtain ⟨n, rfl⟩ : ∃ n : Nat, vars = n := ⟨vars.toNat, by have := good_cnf hq; omega⟩
    rw [Int.toNat_natCast]
    exact circuitOf_any n v xss F w hx hq
end Go.Proofs.Ytkhopkonddgicaa

/- Contracts: counted models and the first one, in the program. -/
namespace Go.Proofs.Ytkhopkonddgicaa
open Go.RowKit

set_option maxRecDepth 100000 in
set_option maxHeartbeats 4000000 in
theorem countCnfModels_any (vars : Int) (v : Value) (xss : List (List Int)) (F : List Nat) (w : World) (hx : (Ty.slice Ty.int).row false w v xss F) (h1 : goodB vars xss = true) :
    Calls Try.prog 12 #[.agg #[.int .i64 vars, v]] w fun e w' => e = .returned (.tuple #[.int .i64 (cntP (modT xss) (2 ^ vars.toNat)), .bool true]) ∧ Below w.heap.size w w' := by
  obtain ⟨A, cap, rfl, hI⟩ := cls_row hx
  have hg := good_cnf h1
  obtain ⟨n, rfl⟩ := Int.eq_ofNat_of_zero_le hg.1.1
  rw [show (n : Int).toNat = n by omega]
  have hn : n ≤ 12 := by omega
  have hp := (pow12 hn).2
  have S0 := (Sp.start w).alloc_box #[.int .i64 n, .slice A xss.length cap] 26
  have hcall := Lib.hid (implIsCnf_any n _ xss F _ (Ty.row_below hx S0.below (Ty.row_lt hx)))
  have eg : Enter1 44 := enters_of Try.func44 (by kernel_rfl) rfl
  have hmod := Lib.hid (fun W (S : Sp w W [Box w.heap.size 26 #[.int .i64 n, .slice A xss.length cap]]) =>
    models_any (cb := #[.pointer (some ⟨W.heap.size, 0, none⟩)]) eg n hn xss hg.2.2.2 (by omega) A cap (W.alloc (.cells #[.int .i64 0] 3)) [W.heap.size] (by simp)
    (fun k V => Sp w V [Box W.heap.size 3 #[.int .i64 (cntP (modT xss) k)], Box w.heap.size 26 #[.int .i64 n, .slice A xss.length cap]])
    (S.alloc_box #[.int .i64 0] 3) (fun k V V' h hb => h.grow hb) (fun k V h => hI.grow h.below)
    (fun k V hm h => by rw [cntP_no hm]; exact h)
    (fun k V hk hm h => by
      have f0 := h.frozen (i := 0) rfl 0
      have c0 := h.cell (i := 0) rfl (o := 0) rfl
      have hcl := cntP_le (modT xss) k
      have hcn := Lib.hid (cntP_yes hm)
      have S1 := Lib.hid (h.store (i := 0) rfl 0 (.int .i64 ((cntP (modT xss) k : Int) + 1)))
      have hch := Lib.hid ((Chg.refl [W.heap.size] V).set (p := ⟨W.heap.size, 0, none⟩) (by simp) (.int .i64 ((cntP (modT xss) k : Int) + 1)))
      have hlt : k < 4096 := Nat.lt_of_lt_of_le hk hp
      generalize cntP (modT xss) k = c at *
      have hwc : IntKind.i64.wrap ((c : Int) + 1) = (c : Int) + 1 := IntWalk.i64_in _ (by omega)
      clear h hcl hk hm
      show Calls Try.prog 44 #[.int .i64 k, .pointer (some ⟨W.heap.size, 0, none⟩)] V _
      go_enter Try.func44, Try.ntmps44
      go_wp2_with fail
      go_ret
      exact ⟨true, rfl, hch.out, by rw [if_pos rfl, hcn.out]; exact S1.out⟩))
  replace S0 := Lib.hid S0
  have c0 := S0.out.cell (i := 0) rfl (o := 0) rfl
  have c1 := S0.out.cell (i := 0) rfl (o := 1) rfl
  rw [h1] at hcall
  clear eg hx hI hg h1
  generalize 2 ^ n = N at *
  go_enter Try.func12, Try.ntmps12
  go_wp2_with fail
  refine hcall.out.mono ?_
  rintro e w1 ⟨rfl, hb1⟩
  have S1 := Lib.hid (S0.out.grow hb1)
  have SA := S1.out.alloc_box #[.int .i64 0] 3
  have d0 := SA.cell (i := 1) rfl (o := 0) rfl
  have d1 := SA.cell (i := 1) rfl (o := 1) rfl
  clear SA
  have hm2 := Lib.hid (hmod.out _ S1.out)
  clear hcall hmod S0 S1 c0 c1 hb1
  go_wp2_with fail
  refine hm2.out.mono ?_
  rintro e w2 ⟨rfl, S2⟩
  have d2 := S2.cell (i := 0) rfl (o := 0) rfl
  have hB := S2.below
  clear hm2 S2 d0 d1
  go_wp2_with fail
  go_ret2
  exact ⟨rfl, hB⟩

set_option maxHeartbeats 2000000 in
theorem countCnfNo_any (vars : Int) (v : Value) (xss : List (List Int)) (F : List Nat) (w : World) (hx : (Ty.slice Ty.int).row false w v xss F) (h1 : goodB vars xss = false) :
    Calls Try.prog 12 #[.agg #[.int .i64 vars, v]] w fun e w' => e = .returned (.tuple #[.int .i64 0, .bool false]) ∧ Below w.heap.size w w' := by
  obtain ⟨A, cap, rfl, hI⟩ := cls_row hx
  have S0 := (Sp.start w).alloc_box #[.int .i64 vars, .slice A xss.length cap] 26
  have hcall := Lib.hid (implIsCnf_any vars _ xss F _ (Ty.row_below hx S0.below (Ty.row_lt hx)))
  replace S0 := Lib.hid S0
  have c0 := S0.out.cell (i := 0) rfl (o := 0) rfl
  have c1 := S0.out.cell (i := 0) rfl (o := 1) rfl
  rw [h1] at hcall
  clear hx hI h1
  go_enter Try.func12, Try.ntmps12
  go_wp2_with fail
  refine hcall.out.mono ?_
  rintro e w1 ⟨rfl, hb1⟩
  have hB := Lib.hid (S0.out.grow hb1).below
  clear hcall S0 c0 c1 hb1
  go_wp2_with fail
  go_ret2
  exact ⟨rfl, hB.out⟩

theorem idx_next {p : Nat → Bool} {k : Nat} (h : p k = false) : idxP p (List.range (k + 1)) = idxP p (List.range k) := by
  unfold idxP
  rw [rany_next, h, Bool.or_false]
  cases ha : (List.range k).any p
  · rfl
  · rw [if_pos rfl, if_pos rfl, List.range_succ, List.findIdx_append, if_pos (List.findIdx_lt_length_of_exists (by simpa using List.any_eq_true.1 ha))]

/- left out: the seat has no impl.FirstModel -/
end Go.Proofs.Ytkhopkonddgicaa

/- Contracts: a model told by the program; the constants of the reference. -/
namespace Go.Proofs.Ytkhopkonddgicaa
open Go.RowKit

set_option maxRecDepth 100000 in
set_option maxHeartbeats 4000000 in
theorem isModelM_any (n b : Nat) (v : Value) (xss : List (List Int)) (F : List Nat) (w : World) (hx : (Ty.slice Ty.int).row false w v xss F) (h1 : goodB n xss = true) (hb : b < 2 ^ n) :
    Calls Try.prog 14 #[.agg #[.int .i64 n, v], .int .i64 b] w fun e w' => e = .returned (.tuple #[.bool (modT xss b), .bool true]) ∧ Below w.heap.size w w' := by
  obtain ⟨A, cap, rfl, hI⟩ := cls_row hx
  have hg := good_cnf h1
  have hn : n ≤ 12 := by omega
  obtain ⟨hsh, hp⟩ := pow12 hn
  have hN1 : 1 ≤ 2 ^ n := Nat.one_le_two_pow
  have S0 := (Sp.start w).alloc_box #[.int .i64 n, .slice A xss.length cap] 26
  have hcall0 := implIsCnf_any n _ xss F _ (Ty.row_below hx S0.below (Ty.row_lt hx))
  rw [h1] at hcall0
  replace hcall0 := Lib.hid hcall0
  have hcall := Lib.hid (fun W (h : Below w.heap.size w W) => isModel_any xss hg.2.2.2 (by omega) A cap b (by omega) W (hI.grow h))
  have hin : inB (b : Int) 0 (((2 ^ n : Nat) : Int) - 1) = true := inB_iff.2 ⟨by omega, by omega⟩
  have hn0 : (0 : Int) ≤ n := by omega
  generalize modT xss b = q at *
  generalize 2 ^ n = N at *
  have hw1 : IntKind.i64.wrap ((N : Int) - 1) = (N : Int) - 1 := IntWalk.i64_in _ (by omega)
  have hwi := Lib.hid (fun W => withinG hin W)
  replace S0 := Lib.hid S0
  clear hx hI hg hin h1
  go_enter Try.func14, Try.ntmps14
  go_wp2_with fail
  refine hcall0.out.mono ?_
  rintro e w1 ⟨rfl, hb1⟩
  have S1 := S0.out.grow hb1
  have c0 := S1.cell (i := 0) rfl (o := 0) rfl
  replace S1 := Lib.hid S1
  clear S0 hb1 hcall0
  go_wp2_with fail
  try rw [hsh]
  try rw [hw1]
  refine (hwi.out _).mono ?_
  rintro e w2 ⟨rfl, hb2⟩
  have S2 := S1.out.grow hb2
  have c1 := S2.cell (i := 0) rfl (o := 1) rfl
  have hc := Lib.hid (hcall.out _ S2.below)
  replace S2 := Lib.hid S2
  clear S1 hb2 hcall
  go_wp2_with fail
  refine hc.out.mono ?_
  rintro e w3 ⟨rfl, hb3⟩
  have hB := btr S2.out.below hb3
  go_wp2_with fail
  go_ret2
  exact ⟨rfl, hB⟩
end Go.Proofs.Ytkhopkonddgicaa

/- Plain facts: decimals, checksums, sealed strings, splitting. No program in sight. -/
namespace Go.Proofs.Ytkhopkonddgicaa

theorem decDigits_big {u : Nat} (h : ¬ u < 10) : Lib.decDigits u = Lib.decDigits (u / 10) ++ [UInt8.ofNat (48 + u % 10)] := by rw [Lib.decDigits, dif_neg h]
theorem itoa_nat (u : Nat) : Lib.itoa u = Lib.decDigits u := by simp [Lib.itoa, Int.not_lt.2 (Int.natCast_nonneg u)]
theorem itoa_neg (u : Nat) (h : 0 < u) : Lib.itoa (-(u : Int)) = 45 :: Lib.decDigits u := by
  rw [Lib.itoa, if_pos (by omega)]; congr 2; omega
theorem digit_at : ∀ k : Nat, k < 10 → (ByteArray.mk #[48, 49, 50, 51, 52, 53, 54, 55, 56, 57]).extract k (k + 1) = ms [UInt8.ofNat (48 + k)] := by
  intro k hk
  apply bl_inj
  rw [bl_extract, bl_ms]
  match k, hk with
  | 0, _ => rfl
  | 1, _ => rfl
  | 2, _ => rfl
  | 3, _ => rfl
  | 4, _ => rfl
  | 5, _ => rfl
  | 6, _ => rfl
  | 7, _ => rfl
  | 8, _ => rfl
  | 9, _ => rfl
theorem decDigits_ne (u : Nat) : Lib.decDigits u ≠ [] := by
  by_cases h : u < 10
  · rw [Lib.decDigits, dif_pos h]; simp
  · rw [decDigits_big h]; simp
theorem decDigits_len : ∀ (k u : Nat), u < 10 ^ (k + 1) → (Lib.decDigits u).length ≤ k + 1
  | 0, u, h => by rw [Lib.decDigits, dif_pos (by simpa using h)]; simp
  | k + 1, u, h => by
    by_cases h1 : u < 10
    · rw [Lib.decDigits, dif_pos h1]; simp
    · rw [decDigits_big h1, List.length_append]
      have := decDigits_len k (u / 10) (by rw [Nat.pow_succ] at h; omega)
      simp; omega
theorem decDigits_digit : ∀ (n u : Nat), u ≤ n → ∀ c ∈ Lib.decDigits u, 48 ≤ c.toNat ∧ c.toNat ≤ 57
  | n, u, hn => by
    intro c hc
    by_cases h1 : u < 10
    · rw [Lib.decDigits, dif_pos h1] at hc
      simp at hc; subst hc
      simp; omega
    · rw [decDigits_big h1] at hc
      rcases List.mem_append.1 hc with hc | hc
      · cases n with
        | zero => omega
        | succ n => exact decDigits_digit n (u / 10) (by omega) c hc
      · simp at hc; subst hc
        simp; omega
termination_by n => n

/-- The checksum. -/
def sumB (l : List UInt8) : Int := l.foldl (fun h c => (41 * h + c.toNat + 1) % 999979) 7
theorem sumB_snoc (l : List UInt8) (c : UInt8) : sumB (l ++ [c]) = (41 * sumB l + c.toNat + 1) % 999979 := by simp [sumB]
theorem sumB_nil : sumB [] = 7 := rfl
theorem sumB_range (l : List UInt8) : 0 ≤ sumB l ∧ sumB l < 999979 := by
  rcases List.eq_nil_or_concat l with rfl | ⟨l', c, rfl⟩
  · exact ⟨by decide, by decide⟩
  · rw [List.concat_eq_append, sumB_snoc]; omega
/-- The sealed string. -/
def sealB (l : List UInt8) : List UInt8 := l ++ 35 :: Lib.itoa (sumB l)
theorem itoa_len {n : Int} (h0 : 0 ≤ n) (h : n < 1000000) : (Lib.itoa n).length ≤ 6 := by
  obtain ⟨u, rfl⟩ := Int.eq_ofNat_of_zero_le h0
  rw [itoa_nat]
  exact decDigits_len 5 u (by omega)
theorem sealB_length (l : List UInt8) : (sealB l).length ≤ l.length + 7 := by
  have := sumB_range l
  have := itoa_len this.1 (by omega)
  simp [sealB]; omega
end Go.Proofs.Ytkhopkonddgicaa

/- Contract: the decimal of a number, in the reference. -/
namespace Go.Proofs.Ytkhopkonddgicaa
open Go.RowKit

theorem ret_str {s t : ByteArray} (h : s = t) : Ending.returned (.string s) = .returned (.string t) := by rw [h]

/-- One decimal digit. -/
def dgB (n : Int) : List UInt8 := [UInt8.ofNat (48 + n.toNat)]
theorem dgB_length (n : Int) : (dgB n).length = 1 := rfl

theorem digit_int (n : Int) (h0 : 0 ≤ n) (h : n < 10) : (ByteArray.mk #[48, 49, 50, 51, 52, 53, 54, 55, 56, 57]).extract n.toNat (n + 1).toNat = ms (dgB n) := by
  unfold dgB
  rw [show (n + 1).toNat = n.toNat + 1 by omega]
  exact digit_at _ (by omega)

set_option maxHeartbeats 400000 in
theorem l1Num_nat (k : Nat) : ∀ (n : Int) (w : World), 0 ≤ n → n ≤ 1000000000000 → n.toNat ≤ k →
    Calls Try.prog 153 #[.int .i64 n] w fun e w' => e = .returned (.string (ms (Lib.decDigits n.toNat))) ∧ Below w.heap.size w w' := by
  induction k with
  | zero =>
    intro n w h0 hb hk
    have h : n < 10 := by omega
    go_enter Try.func153, Try.ntmps153
    go_wp2_with fail
    go_ret
    exact ⟨ret_str (by rw [Lib.decDigits, dif_pos (by omega)]; exact digit_int n h0 h), bb _⟩
  | succ k ih =>
    intro n w h0 hb hk
    by_cases h : n < 10
    · go_enter Try.func153, Try.ntmps153
      go_wp2_with fail
      go_ret
      exact ⟨ret_str (by rw [Lib.decDigits, dif_pos (by omega)]; exact digit_int n h0 h), bb _⟩
    · have hl : (Lib.decDigits (n / 10).toNat).length ≤ 13 := decDigits_len 12 _ (by omega)
      have hm1 : 0 ≤ n % 10 := by omega
      have hm2 : n % 10 < 10 := by omega
      have e4 := digit_int (n % 10) hm1 hm2
      have e5 := fun w => run_add (P := Try.prog) w (ms (Lib.decDigits (n / 10).toNat)) (ms (dgB (n % 10))) (by rw [ms_size, ms_size, dgB_length]; omega)
      have e6 : Hid (bl (ms (Lib.decDigits (n / 10).toNat)) ++ bl (ms (dgB (n % 10))) = Lib.decDigits n.toNat) := by
        rw [bl_ms, bl_ms, decDigits_big (u := n.toNat) (by omega)]
        unfold Hid dgB
        rw [show n.toNat / 10 = (n / 10).toNat by omega, show n.toNat % 10 = (n % 10).toNat by omega]
      have q1 : 0 ≤ n / 10 := by omega
      have q2 : n / 10 ≤ 1000000000000 := by omega
      have q3 : (n / 10).toNat ≤ k := by omega
      have e1 : IntKind.i64.wrap (n.tdiv 10) = n / 10 := by rw [Int.tdiv_eq_ediv_of_nonneg h0]; exact IntWalk.i64_in _ (by omega)
      have e2 : IntKind.i64.wrap (n.tmod 10) = n % 10 := by rw [Int.tmod_eq_emod_of_nonneg h0]; exact IntWalk.i64_in _ (by clear e1; omega)
      have e3 : IntKind.i64.wrap (n % 10 + 1) = n % 10 + 1 := IntWalk.i64_in _ (by clear e1 e2; omega)
      go_enter Try.func153, Try.ntmps153
      go_wp2_with fail
      refine wp_region_quiet_below (by kernel_rfl) (by kernel_rfl) ?_
      repeat (any_goals (first | go_big_quiet_step ((go_at_call 153; exact Calls.regrown_of (ih (n / 10) _ q1 q2 q3))) | quiet_step ((go_at_call 153; exact Calls.regrown_of (ih (n / 10) _ q1 q2 q3)))))
      refine wpQuiet_nil ?_
      rintro w1 ⟨p, rfl⟩
      go_wp2_with fail
      go_ret
      exact ⟨ret_str (congrArg ms e6.out), below_regrown _ _ _⟩

theorem l1Num_pos (n : Int) (w : World) (h0 : 0 ≤ n) (h1 : n ≤ 1000000000000) :
    Calls Try.prog 153 #[.int .i64 n] w fun e w' => e = .returned (.string (ms (Lib.itoa n))) ∧ Below w.heap.size w w' := by
  have e : Lib.itoa n = Lib.decDigits n.toNat := by rw [Lib.itoa, if_neg (by omega)]
  rw [e]
  exact l1Num_nat n.toNat n w h0 h1 (Nat.le_refl _)

set_option maxHeartbeats 400000 in
theorem l1Num_any (n : Int) (w : World) (h0 : -1000000000000 ≤ n) (h1 : n ≤ 1000000000000) :
    Calls Try.prog 153 #[.int .i64 n] w fun e w' => e = .returned (.string (ms (Lib.itoa n))) ∧ Below w.heap.size w w' := by
  by_cases hn : n < 0
  · have hl : (Lib.itoa (-n)).length ≤ 13 := by
      rw [Lib.itoa, if_neg (by omega)]; exact decDigits_len 12 _ (by omega)
    have e6 : Hid (45 :: Lib.itoa (-n) = Lib.itoa n) := by
      unfold Hid
      rw [Lib.itoa, if_neg (by omega), Lib.itoa, if_pos hn, show n.natAbs = (-n).toNat by omega]
    go_enter Try.func153, Try.ntmps153
    go_wp2_with (go_at_call 153; refine (l1Num_pos (-n) _ (by omega) (by omega)).mono ?_; rintro e w1 ⟨rfl, hb1⟩)
    go_ret
    exact ⟨ret_str (by apply bl_inj; rw [bl_ms, ← e6.out]; simp [bl_append, bl_ms, bl_lit]), by assumption⟩
  · exact l1Num_pos n w (by omega) h1
end Go.Proofs.Ytkhopkonddgicaa

/- Contracts, weak ones: splitting and reading texts in the reference, as the draws need it. -/
namespace Go.Proofs.Ytkhopkonddgicaa
open Go.RowKit

theorem infoStrT : (Try.prog.info? 9).map (fun i => (i.zero, i.size, i.bytes)) = some (some (.string ByteArray.empty), 1, 16) := by kernel_rfl
theorem ext_le (s : ByteArray) (a b : Nat) : (s.extract a b).size ≤ s.size := by
  rw [← bl_length, bl_extract, List.length_take, List.length_drop, bl_length]; omega
theorem itoa_short {z : Int} (h0 : -1000000 ≤ z) (h1 : z ≤ 1000000) : (Lib.itoa z).length ≤ 14 := by
  rw [Lib.itoa]
  split
  · have := decDigits_len 12 z.natAbs (by omega)
    simp only [List.length_cons]; omega
  · have := decDigits_len 12 z.toNat (by omega)
    omega
/-- Some strings, none longer than a bound. -/
def StrsLe (n : Nat) (ps : List ByteArray) : Prop := ∀ p ∈ ps, p.size ≤ n

set_option maxRecDepth 100000 in
set_option maxHeartbeats 4000000 in
theorem l1SplitW_any (s : ByteArray) (b : Int) (w : World) (hs : s.size ≤ 100000) :
    Calls Try.prog 147 #[.string s, .int .u8 b] w fun e w' => ∃ (ps : List ByteArray) (B : Option Addr) (c : Nat), e = .returned (.slice B ps.length c) ∧ 0 < ps.length ∧ ps.length ≤ s.size + 1 ∧ StrsLe s.size ps ∧ Sp w w' [Own 9 1 (.slice B ps.length c) ps.length (ps.map .string)] := by
  obtain ⟨i0, hi, hz0, hz1, hz2⟩ := info_parts infoStrT
  have S0 := Lib.hid ((Sp.start w).own_made 9 1)
  go_enter Try.func147, Try.ntmps147
  go_wp2_with fail
  go_loopw [5, 6, 7] (fun vo vf vi wr => ∃ (k fr : Nat) (ps : List ByteArray) (B : Option Addr) (c : Nat), k ≤ s.size ∧ fr ≤ k ∧ ps.length ≤ k ∧ vi = .int .i64 k ∧ vf = .int .i64 fr ∧ vo = .slice B ps.length c ∧ Hid (StrsLe s.size ps) ∧ Hid (Sp w wr [Own 9 1 (.slice B ps.length c) ps.length (ps.map .string)])) (fun _ _ vi _ => s.size - (intOf vi).toNat)
  case atStart => exact ⟨0, 0, [], _, _, Nat.zero_le _, Nat.le_refl _, Nat.le_refl _, rfl, rfl, rfl, fun p hp => by simp at hp, S0⟩
  case round =>
    obtain ⟨k, fr, ps, B, c, hk, hfr, hps, rfl, rfl, rfl, HL, HS⟩ := hrel
    clear S0
    by_cases hlt : k < s.size
    · by_cases hb : ((s[k].toNat : Int) == b) = true
      · have hx := ext_le s fr k
        have S2 := HS.out.alloc_box #[.string (s.extract fr k)] 9
        have kB := S2.cell (i := 0) rfl (o := 0) rfl
        replace S2 := Lib.hid S2
        clear HS
        go_wp2_with (at_builtin; refine wpList_append_src rfl _ _ rfl Try.underlying114 hi hz0 hz1 hz2 rfl (by decide) _ _ _ rfl (S2.out.own (i := 1) rfl) _ 1 1 [.string (s.extract fr k)] rfl (Src.one kB) (by simp [Value.oneCell']) ?c3 ?c4 ?_)
        case c3 => unfold maxLen; omega
        case c4 => omega
        intro vY wY hownY hgY hatY
        have S4 := (S2.out.own_push (i := 1) rfl (bb _) hownY hgY (by simpa using hatY)).tail
        obtain ⟨aY, cY, rfl⟩ := own_slice hownY
        have hlen : ps.length + 1 = (ps ++ [s.extract fr k]).length := by simp
        have HS3 : Hid (Sp w wY [Own 9 1 (.slice aY (ps ++ [s.extract fr k]).length cY) (ps ++ [s.extract fr k]).length ((ps ++ [s.extract fr k]).map .string)]) := by
          unfold Hid; rw [← hlen, List.map_append]; exact S4
        have HL2 : Hid (StrsLe s.size (ps ++ [s.extract fr k])) := fun p hp => by
          rcases List.mem_append.1 hp with hp | hp
          · exact HL.out p hp
          · obtain rfl : p = s.extract fr k := by simpa using hp
            exact hx
        rw [hlen]
        generalize ps ++ [s.extract fr k] = ps2 at *
        clear S2 S4 kB hownY hgY hatY HL hx
        replace hlen := Lib.hid hlen
        go_wp2_with fail
        go_roundw
        case rel => exact ⟨k + 1, k + 1, ps2, aY, cY, by omega, by omega, by have := hlen.out; omega, by go_num, by go_num, rfl, HL2, HS3⟩
        case measure => simp [intOf]; omega
      · have hb' : ((s[k].toNat : Int) == b) = false := by simpa using hb
        clear hb
        go_wp2_with fail
        go_roundw
        case rel => exact ⟨k + 1, fr, ps, B, c, by omega, by omega, by omega, by go_num, rfl, rfl, HL, HS⟩
        case measure => simp [intOf]; omega
    · obtain rfl : k = s.size := by omega
      have hx := ext_le s fr s.size
      have S2 := HS.out.alloc_box #[.string (s.extract fr s.size)] 9
      have kB := S2.cell (i := 0) rfl (o := 0) rfl
      replace S2 := Lib.hid S2
      clear HS
      go_wp2_with (at_builtin; refine wpList_append_src rfl _ _ rfl Try.underlying114 hi hz0 hz1 hz2 rfl (by decide) _ _ _ rfl (S2.out.own (i := 1) rfl) _ 1 1 [.string (s.extract fr s.size)] rfl (Src.one kB) (by simp [Value.oneCell']) ?c3 ?c4 ?_)
      case c3 => unfold maxLen; omega
      case c4 => omega
      intro vY wY hownY hgY hatY
      have S4 := (S2.out.own_push (i := 1) rfl (bb _) hownY hgY (by simpa using hatY)).tail
      obtain ⟨aY, cY, rfl⟩ := own_slice hownY
      have hlen : ps.length + 1 = (ps ++ [s.extract fr s.size]).length := by simp
      have HS3 : Hid (Sp w wY [Own 9 1 (.slice aY (ps ++ [s.extract fr s.size]).length cY) (ps ++ [s.extract fr s.size]).length ((ps ++ [s.extract fr s.size]).map .string)]) := by
        unfold Hid; rw [← hlen, List.map_append]; exact S4
      have HL2 : Hid (StrsLe s.size (ps ++ [s.extract fr s.size])) := fun p hp => by
        rcases List.mem_append.1 hp with hp | hp
        · exact HL.out p hp
        · obtain rfl : p = s.extract fr s.size := by simpa using hp
          exact hx
      rw [hlen]
      generalize ps ++ [s.extract fr s.size] = ps2 at *
      clear S2 S4 kB hownY hgY hatY HL hx
      replace hlen := Lib.hid hlen
      go_wp2_with fail
      go_ret
      exact ⟨ps2, aY, cY, rfl, by have := hlen.out; omega, by have := hlen.out; omega, HL2.out, HS3.out⟩
end Go.Proofs.Ytkhopkonddgicaa

/- Contracts, weak ones: the number of a text, the text of a clause, in the reference. -/
namespace Go.Proofs.Ytkhopkonddgicaa
open Go.RowKit

/-- A number and whether it was one. -/
def ReadW (e : Ending) : Prop := ∃ (z : Int) (q : Bool), -1000000 ≤ z ∧ z ≤ 1000000 ∧ e = .returned (.tuple #[.int .i64 z, .bool q])
set_option maxRecDepth 100000 in
set_option maxHeartbeats 4000000 in
theorem l1ReadW_any (s : ByteArray) (w : World) (hs : s.size ≤ 100000) :
    Calls Try.prog 148 #[.string s] w fun e w' => ReadW e ∧ Below w.heap.size w w' := by
  go_enter Try.func148, Try.ntmps148
  go_upto_region 2 with fail
  go_cut [15] (fun v wx => ∃ q : Bool, v = .bool q ∧ Hid (q = true → 1 < s.size) ∧ wx = w)
  case first =>
    by_cases h1 : (1 : Int) < (s.size : Int)
    · have d1 : decide ((1 : Int) < (s.size : Int)) = true := decide_eq_true h1
      have h0 : 0 < s.size := by omega
      by_cases h2 : ((s[0].toNat : Int) == 45) = true
      · go_wp2_with fail
        go_meet
        exact ⟨true, rfl, fun _ => by omega, rfl⟩
      · have h2' : ((s[0].toNat : Int) == 45) = false := by simpa using h2
        clear h2
        go_wp2_with fail
        go_meet
        exact ⟨false, rfl, (fun e => by cases e), rfl⟩
    · have d1 : decide ((1 : Int) < (s.size : Int)) = false := decide_eq_false h1
      go_wp2_with fail
      go_meet
      exact ⟨false, rfl, (fun e => by cases e), rfl⟩
  case rest =>
  obtain ⟨q, rfl, hq, hw⟩ := hcut
  subst hw
  go_upto_if 15 with fail
  go_cut [4] (fun v wx => ∃ t : ByteArray, v = .string t ∧ t.size ≤ 100000 ∧ wx = wc)
  case first =>
    cases q
    · go_wp2_with fail
      go_meet
      exact ⟨s, rfl, hs, rfl⟩
    · have hq2 := hq.out rfl
      have h1 : (1 : Int) ≤ (s.size : Int) := by omega
      have hx := ext_le s 1 s.size
      clear hq
      go_wp2_with fail
      go_meet
      exact ⟨s.extract 1 s.size, rfl, by omega, rfl⟩
  case rest =>
  clear hq
  obtain ⟨t, rfl, ht, hw2⟩ := hcut
  subst hw2
  obtain ⟨q6, hq6⟩ : ∃ q, inB (t.size : Int) 1 6 = q := ⟨_, rfl⟩
  go_wp2_with fail
  refine (l1In_any _ _ _ _).mono ?_
  rintro e w1 ⟨rfl, rfl⟩
  rw [hq6]
  cases q6
  · go_wp2_with fail
    go_ret2
    exact ⟨⟨0, false, by decide, by decide, rfl⟩, bb _⟩
  have hT6 : t.size ≤ 6 := by unfold inB at hq6; simp only [Bool.and_eq_true, decide_eq_true_eq] at hq6; omega
  go_wp2_with fail
  go_loop [5, 6] (fun z i => ∃ (k : Nat) (v : Int), k ≤ t.size ∧ i = .int .i64 k ∧ z = .int .i64 v ∧ 0 ≤ v ∧ Hid (v < (10 : Int) ^ k)) (fun _ i => t.size - (intOf i).toNat)
  case atStart => exact ⟨0, 0, Nat.zero_le _, rfl, rfl, Int.le_refl _, by unfold Hid; decide⟩
  case round =>
    obtain ⟨k, v, hk, rfl, rfl, hv0, hv⟩ := hrel
    have hv6 : v < 1000000 := Int.lt_of_lt_of_le hv.out (by
      have h1 : (10 : Int) ^ k = ((10 ^ k : Nat) : Int) := by rw [Int.natCast_pow]; rfl
      have h2 : 10 ^ k ≤ 10 ^ 6 := Nat.pow_le_pow_right (by decide) (by omega)
      omega)
    by_cases hlt : k < t.size
    · have hc256 := t[k].toNat_lt
      by_cases h1 : (t[k].toNat : Int) < 48
      · have d1 : decide ((t[k].toNat : Int) < 48) = true := decide_eq_true h1
        go_wp2_with fail
        go_ret2
        exact ⟨⟨0, false, by decide, by decide, rfl⟩, bb _⟩
      · have d1 : decide ((t[k].toNat : Int) < 48) = false := decide_eq_false h1
        by_cases h2 : (57 : Int) < (t[k].toNat : Int)
        · have d2 : decide ((57 : Int) < (t[k].toNat : Int)) = true := decide_eq_true h2
          go_wp2_with fail
          go_ret2
          exact ⟨⟨0, false, by decide, by decide, rfl⟩, bb _⟩
        · have d2 : decide ((57 : Int) < (t[k].toNat : Int)) = false := decide_eq_false h2
          have hw1 : IntKind.i64.wrap (10 * v) = 10 * v := IntWalk.i64_in _ (by omega)
          have hnx : Hid (10 * v + ((t[k].toNat : Int) - 48) < (10 : Int) ^ (k + 1)) := by
            have h3 := hv.out
            unfold Hid
            rw [Int.pow_succ]
            omega
          have hge : 0 ≤ 10 * v + ((t[k].toNat : Int) - 48) := by omega
          clear hv
          go_wp2_with fail
          go_round
          case rel => exact ⟨k + 1, _, by omega, by go_num, rfl, hge, hnx⟩
          case measure => simp [intOf]; omega
    · obtain rfl : k = t.size := by omega
      clear hv
      have hneg : IntKind.i64.wrap (-v) = -v := IntWalk.i64_in _ (by omega)
      go_upto_if 50 with fail
      go_cut [5] (fun x wx => ∃ z : Int, x = .int .i64 z ∧ -1000000 ≤ z ∧ z ≤ 1000000 ∧ wx = wc)
      case first =>
        by_cases hlt2 : (t.size : Int) < (s.size : Int)
        · have d1 : decide ((t.size : Int) < (s.size : Int)) = true := decide_eq_true hlt2
          go_wp2_with fail
          go_meet
          exact ⟨-v, rfl, by omega, by omega, rfl⟩
        · have d1 : decide ((t.size : Int) < (s.size : Int)) = false := decide_eq_false hlt2
          go_wp2_with fail
          go_meet
          exact ⟨v, rfl, by omega, by omega, rfl⟩
      case rest =>
      obtain ⟨z, rfl, hz0, hz1, hw3⟩ := hcut
      subst hw3
      go_wp2_with fail
      refine (l1Num_any z _ (by omega) (by omega)).mono ?_
      rintro e w2 ⟨rfl, hb2⟩
      generalize ms (Lib.itoa z) = u at *
      obtain ⟨q, hq⟩ : ∃ q, (bl u == bl s) = q := ⟨_, rfl⟩
      cases q
      · go_wp2_with fail
        go_ret2
        exact ⟨⟨0, false, by decide, by decide, rfl⟩, hb2⟩
      · go_wp2_with fail
        go_ret2
        exact ⟨⟨z, true, hz0, hz1, rfl⟩, hb2⟩

set_option maxRecDepth 100000 in
set_option maxHeartbeats 4000000 in
theorem l2TextW_any (c : List Int) (hc : Within 1000000 c) (hl : c.length ≤ 100) (A : Option Addr) (cap : Nat) (w : World) (hx : IntsAt w A c) :
    Calls Try.prog 154 #[.slice A c.length cap] w fun e w' => ∃ t : ByteArray, t.size ≤ 20 * c.length + 20 ∧ e = .returned (.string t) ∧ Below w.heap.size w w' := by
  have hN := Lib.hid hx
  clear hx
  by_cases h0 : c.length = 0
  · have h0' : (c.length : Int) = 0 := by omega
    replace h0 := Lib.hid h0
    go_enter Try.func154, Try.ntmps154
    go_wp2_with fail
    go_ret
    exact ⟨_, by show 4 ≤ _; omega, rfl, bb _⟩
  · have h1 : 0 < c.length := by omega
    have h0' : ((c.length : Int) == 0) = false := by rw [beq_eq_false_iff_ne]; omega
    obtain ⟨b, off, rfl, m0⟩ := hN.out.at_ 0 h1
    have hb0 := hc _ (List.getElem_mem h1)
    rw [Nat.add_zero] at m0
    generalize c[0] = x0 at *
    clear h0
    go_enter Try.func154, Try.ntmps154
    go_wp2_with fail
    refine (l1Num_any x0 _ (by omega) (by omega)).mono ?_
    rintro e w1 ⟨rfl, hb1⟩
    have hsz : (ms (Lib.itoa x0)).size ≤ 14 := by rw [ms_size]; exact itoa_short hb0.1 hb0.2
    generalize ms (Lib.itoa x0) = t0 at *
    have HB0 := Lib.hid hb1
    clear hb1 m0 hb0
    go_wp2_with fail
    go_loopw [3, 4] (fun vs vi wr => ∃ (k : Nat) (t : ByteArray), k ≤ c.length ∧ 1 ≤ k ∧ vi = .int .i64 k ∧ vs = .string t ∧ t.size ≤ 20 * k ∧ Hid (Below w.heap.size w wr)) (fun _ vi _ => c.length - (intOf vi).toNat)
    case atStart => exact ⟨1, t0, h1, Nat.le_refl _, rfl, rfl, by omega, HB0⟩
    case round =>
      obtain ⟨k, t, hk, hk1, rfl, rfl, hts, HB⟩ := hrel
      clear HB0
      by_cases hlt : k < c.length
      · obtain ⟨b', off', e', m0⟩ := (hN.out.grow HB.out).at_ k hlt
        cases e'
        have hb0 := hc _ (List.getElem_mem hlt)
        generalize c[k] = x at *
        obtain ⟨t1, ht1⟩ : ∃ t1, ms (bl t ++ bl ⟨#[32]⟩) = t1 := ⟨_, rfl⟩
        have hs1 : t1.size ≤ 20 * k + 1 := by
          rw [← ht1, ms_size, List.length_append, bl_length, bl_length]
          have : (⟨#[32]⟩ : ByteArray).size = 1 := rfl
          omega
        have a1 := fun w' => run_add (P := Try.prog) w' t ⟨#[32]⟩ (by have : (⟨#[32]⟩ : ByteArray).size = 1 := rfl; omega)
        rw [ht1] at a1
        clear ht1
        go_wp2_with fail
        refine (l1Num_any x _ (by omega) (by omega)).mono ?_
        rintro e w2 ⟨rfl, hb2⟩
        have hsz2 : (ms (Lib.itoa x)).size ≤ 14 := by rw [ms_size]; exact itoa_short hb0.1 hb0.2
        generalize ms (Lib.itoa x) = u at *
        obtain ⟨t2, ht2⟩ : ∃ t2, ms (bl t1 ++ bl u) = t2 := ⟨_, rfl⟩
        have hs2 : t2.size ≤ 20 * (k + 1) := by
          rw [← ht2, ms_size, List.length_append, bl_length, bl_length]
          omega
        have a2 := fun w' => run_add (P := Try.prog) w' t1 u (by omega)
        rw [ht2] at a2
        have HB2 := Lib.hid (btr HB.out hb2)
        clear ht2 HB hb2 hb0 m0 a1
        go_wp2_with fail
        go_roundw
        case rel => exact ⟨k + 1, t2, by omega, by omega, by go_num, rfl, hs2, HB2⟩
        case measure => simp [intOf]; omega
      · obtain rfl : k = c.length := by omega
        go_wp2_with fail
        go_ret
        exact ⟨t, by omega, rfl, HB.out⟩
end Go.Proofs.Ytkhopkonddgicaa
