/- Lemmas and contracts for a law, put together out of several texts: GtCa GtR GtCb GuC GuD GtZ. -/
import Derived.Test.YtkhopkonddgicaaMg6
import Derived.Test.YtkhopkonddgicaaMg5
import Derived.Deep.DeepCutAuto
import Derived.BigRegion
/- Contract: the circuit of a Cnf, in the program. -/
namespace Go.Proofs.Ytkhopkonddgicaa
open Go.RowKit

theorem Src.sixG {w : World} {b : Nat} {x y z x' y' z' : Value} (h0 : w.cell? ⟨b, 0, none⟩ = some x) (h1 : w.cell? ⟨b, 1, none⟩ = some y) (h2 : w.cell? ⟨b, 2, none⟩ = some z) (h3 : w.cell? ⟨b, 3, none⟩ = some x') (h4 : w.cell? ⟨b, 4, none⟩ = some y') (h5 : w.cell? ⟨b, 5, none⟩ = some z') : Src w (some ⟨b, 0, none⟩) 2 3 [x, y, z, x', y', z'] :=
  .inr ⟨_, rfl, rfl, fun j u hj => by
    match j, hj with
    | 0, hj => simp at hj; subst hj; rw [add_none]; exact h0
    | 1, hj => simp at hj; subst hj; rw [add_none]; exact h1
    | 2, hj => simp at hj; subst hj; rw [add_none]; exact h2
    | 3, hj => simp at hj; subst hj; rw [add_none]; exact h3
    | 4, hj => simp at hj; subst hj; rw [add_none]; exact h4
    | 5, hj => simp at hj; subst hj; rw [add_none]; exact h5⟩
theorem flat_snoc (M : List Gt) (g : Gt) : (M ++ [g]).flatMap gtEnc = M.flatMap gtEnc ++ [.int .i64 g.k, .int .i64 g.a, .int .i64 g.b] := by simp [gtEnc]
/-- What lies in memory while the circuit is made. -/
abbrev CiSp (w : World) (n : Nat) (A : Option Addr) (m cap : Nat) (M : List Gt) (N : Nat) (ov : Value) (W : World) : Prop :=
  Sp w W [Box w.heap.size 26 #[.int .i64 n, .slice A m cap], Own 41 3 ov N (M.flatMap gtEnc)]

set_option maxRecDepth 100000 in
set_option maxHeartbeats 16000000 in
theorem circuitOf_any (n : Nat) (v : Value) (xss : List (List Int)) (F : List Nat) (w : World) (hx : (Ty.slice Ty.int).row false w v xss F) (h1 : goodB n xss = true) :
    Calls Try.prog 8 #[.agg #[.int .i64 n, v]] w (GOut w (decide ((circR n xss).length ≤ 200)) (circR n xss)) := by
  obtain ⟨i0, hi0, hz0, hz1, hz2⟩ := info_parts infoGt
  obtain ⟨A, cap, rfl, hI⟩ := cls_row hx
  have hg := good_cnf h1
  have hn : n ≤ 12 := by omega
  have hm := hg.2.1
  have hcl : Hid (∀ c ∈ xss, c.length ≤ 1000) := fun c hc => (hg.2.2.2 c hc).2
  have hlit := Lib.hid (good_lits h1)
  have S0 := (Sp.start w).alloc_box #[.int .i64 n, .slice A xss.length cap] 26
  have hcall0 := implIsCnf_any n _ xss F _ (Ty.row_below hx S0.below (Ty.row_lt hx))
  rw [h1] at hcall0
  replace hcall0 := Lib.hid hcall0
  have hI2 := Lib.hid hI
  have hn0 : (0 : Int) ≤ n := by omega
  replace S0 := Lib.hid S0
  obtain ⟨m, hme⟩ : ∃ m, xss.length = m := ⟨_, rfl⟩
  rw [hme] at hcall0 S0 hm
  clear hx hI hg
  rw [hme]
  replace hme := Lib.hid hme
  go_enter Try.func8, Try.ntmps8
  go_wp2_with fail
  refine hcall0.out.mono ?_
  rintro e w1 ⟨rfl, hb1⟩
  have S1 := ((S0.out.grow hb1).own_nil 41 3).pick [1, 0] rfl
  replace S1 := Lib.hid S1
  clear S0 hb1 hcall0
  go_wp2_with fail
  go_loopw [5, 4] (fun i o wr => ∃ (j : Nat) (ov : Value), j ≤ n ∧ i = .int .i64 ((j : Int) + 1) ∧ o = ov ∧ Hid (CiSp w n A m cap (base1 j) j ov wr)) (fun i _ _ => n + 1 - (intOf i).toNat)
  case atStart => exact ⟨0, .slice none 0 0, Nat.zero_le _, rfl, rfl, S1⟩
  case round =>
    obtain ⟨j, ov, hj, rfl, rfl, hS⟩ := hrel
    clear S1
    have c0 := hS.out.cell (i := 0) rfl (o := 0) rfl
    obtain ⟨aO, cO, rfl⟩ := own_slice (hS.out.own (i := 1) rfl)
    by_cases hlt : j < n
    · have hji : ((j : Int) + 1) ≤ n := by omega
      have hw : IntKind.i64.wrap ((j : Int) + 1 + 1) = (j : Int) + 1 + 1 := IntWalk.i64_in _ (by omega)
      have S3 := hS.out.alloc_box #[.int .i64 1, .int .i64 ((j : Int) + 1), .int .i64 0] 41
      (try simp only [World.size_setCell] at S3)
      have kG0 := S3.cell (i := 0) rfl (o := 0) rfl
      have kG1 := S3.cell (i := 0) rfl (o := 1) rfl
      have kG2 := S3.cell (i := 0) rfl (o := 2) rfl
      replace S3 := Lib.hid S3
      clear hS
      go_wp2_with (at_builtin; refine wpList_append_src rfl _ _ rfl Try.underlying28 hi0 hz0 hz1 hz2 rfl (by decide) _ j _ rfl (S3.out.own (i := 2) rfl) _ 1 1 [.int .i64 1, .int .i64 ((j : Int) + 1), .int .i64 0] rfl (Src.threeG kG0 kG1 kG2) (by simp [Value.oneCell']) ?c3 ?c4 ?_)
      case c3 => unfold maxLen; omega
      case c4 => omega
      intro vE wE hownE hgE hatE
      have S4 := (S3.out.own_push (i := 2) rfl (bb _) hownE hgE (by simpa using hatE)).tail
      simp only [List.set_cons_zero, List.set_cons_succ] at S4
      obtain ⟨aE, cE, rfl⟩ := own_slice hownE
      have hS := Lib.hid S4
      clear S3 S4 kG0 kG1 kG2 hownE hgE hatE
      clear c0
      go_wp2_with fail
      go_roundw
      case rel =>
        refine ⟨j + 1, _, by omega, by first | rfl | simp, rfl, ?_⟩
        unfold Hid CiSp
        rw [base1_succ, flat_snoc]
        exact hS.out
      case measure => simp [intOf]; omega
    · obtain rfl : n = j := by omega
      have hji : ¬ ((n : Int) + 1) ≤ n := by omega
      go_wp2_with fail
      clear hji hlt
      go_loopw [31, 4] (fun i o wr => ∃ (j : Nat) (ov : Value), j ≤ n ∧ i = .int .i64 (j : Int) ∧ o = ov ∧ Hid (CiSp w n A m cap (base2 n j) (n + j) ov wr)) (fun i _ _ => n - (intOf i).toNat)
      case atStart => exact ⟨0, _, Nat.zero_le _, rfl, rfl, by unfold Hid; rw [base2_zero]; exact hS.out⟩
      case round =>
        obtain ⟨j, ov, hj, rfl, rfl, hS⟩ := hrel
        clear c0
        have c0 := hS.out.cell (i := 0) rfl (o := 0) rfl
        obtain ⟨aO, cO, rfl⟩ := own_slice (hS.out.own (i := 1) rfl)
        by_cases hlt : j < n
        · have hji : (j : Int) < n := by omega
          have S3 := hS.out.alloc_box #[.int .i64 4, .int .i64 (j : Int), .int .i64 0] 41
          (try simp only [World.size_setCell] at S3)
          have kG0 := S3.cell (i := 0) rfl (o := 0) rfl
          have kG1 := S3.cell (i := 0) rfl (o := 1) rfl
          have kG2 := S3.cell (i := 0) rfl (o := 2) rfl
          replace S3 := Lib.hid S3
          clear hS
          go_wp2_with (at_builtin; refine wpList_append_src rfl _ _ rfl Try.underlying28 hi0 hz0 hz1 hz2 rfl (by decide) _ (n+j) _ rfl (S3.out.own (i := 2) rfl) _ 1 1 [.int .i64 4, .int .i64 (j : Int), .int .i64 0] rfl (Src.threeG kG0 kG1 kG2) (by simp [Value.oneCell']) ?c3 ?c4 ?_)
          case c3 => unfold maxLen; omega
          case c4 => omega
          intro vE wE hownE hgE hatE
          have S4 := (S3.out.own_push (i := 2) rfl (bb _) hownE hgE (by simpa using hatE)).tail
          simp only [List.set_cons_zero, List.set_cons_succ] at S4
          obtain ⟨aE, cE, rfl⟩ := own_slice hownE
          have hS := Lib.hid S4
          clear S3 S4 kG0 kG1 kG2 hownE hgE hatE
          clear c0
          go_wp2_with fail
          go_roundw
          case rel =>
            refine ⟨j + 1, _, by omega, by first | rfl | simp, rfl, ?_⟩
            unfold Hid CiSp
            rw [base2_succ, flat_snoc]
            exact hS.out
          case measure => simp [intOf]; omega
        · obtain rfl : n = j := by omega
          have hji : ¬ (n : Int) < n := by omega
          have S3 := hS.out.alloc_box #[.int .i64 2, .int .i64 0, .int .i64 0, .int .i64 3, .int .i64 0, .int .i64 0] 41
          have kG0 := S3.cell (i := 0) rfl (o := 0) rfl
          have kG1 := S3.cell (i := 0) rfl (o := 1) rfl
          have kG2 := S3.cell (i := 0) rfl (o := 2) rfl
          have kG3 := S3.cell (i := 0) rfl (o := 3) rfl
          have kG4 := S3.cell (i := 0) rfl (o := 4) rfl
          have kG5 := S3.cell (i := 0) rfl (o := 5) rfl
          replace S3 := Lib.hid S3
          clear hS
          go_wp2_with (at_builtin; refine wpList_append_src rfl _ _ rfl Try.underlying28 hi0 hz0 hz1 hz2 rfl (by decide) _ (n+n) _ rfl (S3.out.own (i := 2) rfl) _ 2 2 [.int .i64 2, .int .i64 0, .int .i64 0, .int .i64 3, .int .i64 0, .int .i64 0] rfl (Src.sixG kG0 kG1 kG2 kG3 kG4 kG5) (by simp [Value.oneCell']) ?c3 ?c4 ?_)
          case c3 => unfold maxLen; omega
          case c4 => omega
          intro vE wE hownE hgE hatE
          have S4 := (S3.out.own_push (i := 2) rfl (bb _) hownE hgE (by simpa using hatE)).tail
          simp only [List.set_cons_zero, List.set_cons_succ] at S4
          obtain ⟨aE, cE, rfl⟩ := own_slice hownE
          clear S3 hownE hgE hatE kG0 kG1 kG2 kG3 kG4 kG5 hji hlt c0
          have hlen0 : Hid ((cnfG n (xss.take 0)).1.length = n + n + 2) := by
            unfold Hid
            show (baseG n).length = _
            rw [base_len]
            omega
          have hS : Hid (CiSp w n A m cap (cnfG n (xss.take 0)).1 (n + n + 2) (.slice aE (n + n + 2) cE) wE) := by
            unfold Hid CiSp
            show Sp w wE [_, Own _ _ _ _ ((baseG n).flatMap gtEnc)]
            rw [base_eq, List.flatMap_append]
            exact S4
          clear S4
          have c1 := hS.out.cell (i := 0) rfl (o := 1) rfl
          go_wp2_with fail
          clear c1
          go_loopw [54, 4, 7] (fun i o cn wr => ∃ (j N : Nat) (ov : Value) (z : Int), j ≤ m ∧ i = .int .i64 (j : Int) ∧ o = ov ∧ cn = .int .i64 z ∧ N ≤ 26 + 1001 * j ∧ Hid ((cnfG n (xss.take j)).1.length = N) ∧ Hid (z = ((cnfG n (xss.take j)).2 : Nat)) ∧ Hid (CiSp w n A m cap (cnfG n (xss.take j)).1 N ov wr)) (fun i _ _ _ => m - (intOf i).toNat)
          case atStart => exact ⟨0, n + n + 2, _, _, Nat.zero_le _, rfl, rfl, rfl, by omega, hlen0, by unfold Hid; show _ = ((2 * n : Nat) : Int); omega, hS⟩
          case round =>
            obtain ⟨j, N, ov, z, hj, rfl, rfl, rfl, hN, hNl, hz, hS⟩ := hrel
            clear hlen0
            obtain ⟨aO, cO, rfl⟩ := own_slice (hS.out.own (i := 1) rfl)
            by_cases hlt : j < m
            · have hji : (j : Int) < m := by omega
              have hjx : j < xss.length := by rw [hme.out]; exact hlt
              obtain ⟨b, off, B, cB, e, hc, hT⟩ := hI2.out.at_ j hjx
              cases e
              have hcl1 := hcl.out _ (List.getElem_mem hjx)
              have hli1 := hlit.out _ (List.getElem_mem hjx)
              have htk := cnfG_take (n := n) hjx
              generalize xss[j] = c at hc hT hcl1 hli1 htk
              have hcw := (hS.out.below.cell (p := ⟨b, off + j, none⟩) (World.block_lt_of_cell? _ _ hc)).trans hc
              have hzc := hz.out
              generalize cnfG n (xss.take j) = s at hNl hS htk hzc
              clear hz hc
              obtain ⟨M, zn⟩ := s
              dsimp only at hNl hS hzc
              obtain ⟨L, hL⟩ : ∃ L, c.length = L := ⟨_, rfl⟩
              rw [hL] at hcl1 hcw
              replace hL := Lib.hid hL
              replace hT := Lib.hid hT
              replace hli1 := Lib.hid hli1
              replace htk := Lib.hid htk
              replace hzc := Lib.hid hzc
              go_wp2_with fail
              clear hcw
              have hl0 : Hid (((c.take 0).foldl (litG n) (M, 2 * n + 1)).1.length = N + 0) := hNl
              go_loopw [61, 4, 11] (fun i o cn wo => ∃ (q : Nat) (ov2 : Value) (z2 : Int), q ≤ L ∧ i = .int .i64 (q : Int) ∧ o = ov2 ∧ cn = .int .i64 z2 ∧ Hid (((c.take q).foldl (litG n) (M, 2 * n + 1)).1.length = N + q) ∧ Hid (z2 = (((c.take q).foldl (litG n) (M, 2 * n + 1)).2 : Nat)) ∧ Hid (CiSp w n (some ⟨b, off, none⟩) m cap ((c.take q).foldl (litG n) (M, 2 * n + 1)).1 (N + q) ov2 wo)) (fun i _ _ _ => L - (intOf i).toNat)
              case atStart => exact ⟨0, _, _, Nat.zero_le _, rfl, rfl, rfl, hl0, by unfold Hid; show _ = ((2 * n + 1 : Nat) : Int); omega, hS⟩
              case round =>
                rename World => wo
                obtain ⟨q, ov2, z2, hq, rfl, rfl, rfl, hl3, hz3, hS3⟩ := hrel
                clear hS hl0
                obtain ⟨aP, cP, rfl⟩ := own_slice (hS3.out.own (i := 1) rfl)
                by_cases hlt2 : q < L
                · have hqi : (q : Int) < L := by omega
                  have hqc : q < c.length := by rw [hL.out]; exact hlt2
                  obtain ⟨bb', ob, e, hd⟩ := hT.out.at_ q hqc
                  cases e
                  have hdw := (hS3.out.below.cell (p := ⟨bb', ob + q, none⟩) (World.block_lt_of_cell? _ _ hd)).trans hd
                  have hln := hli1.out _ (List.getElem_mem hqc)
                  have hst := lits_take (n := n) (M, 2 * n + 1) hqc
                  unfold LitN at hln
                  generalize c[q] = l at hdw hln hst
                  clear hd
                  generalize (c.take q).foldl (litG n) (M, 2 * n + 1) = t at hl3 hz3 hS3 hst
                  obtain ⟨T, zt⟩ := t
                  dsimp only at hl3 hz3 hS3
                  have hst2 : Hid ((c.take (q + 1)).foldl (litG n) (M, 2 * n + 1) = (T ++ [⟨6, (zt : Nat), litIx n l⟩], N + q)) := by
                    unfold Hid
                    rw [hst]
                    unfold litG
                    rw [hl3.out]
                  clear hst
                  have hw1 : IntKind.i64.wrap (l - 1) = l - 1 := IntWalk.i64_in _ (by omega)
                  have hw2 : IntKind.i64.wrap ((n : Int) - l) = (n : Int) - l := IntWalk.i64_in _ (by omega)
                  have hw3 : IntKind.i64.wrap ((n : Int) - l - 1) = (n : Int) - l - 1 := IntWalk.i64_in _ (by omega)
                  have c0 := hS3.out.cell (i := 0) rfl (o := 0) rfl
                  by_cases hneg : l < 0
                  · have hix : Hid (litIx n l = (n : Int) - l - 1) := by unfold Hid litIx; rw [if_pos hneg]
                    have S3 := hS3.out.alloc_box #[.int .i64 6, .int .i64 z2, .int .i64 ((n : Int) - l - 1)] 41
                    (try simp only [World.size_setCell] at S3)
                    have kG0 := S3.cell (i := 0) rfl (o := 0) rfl
                    have kG1 := S3.cell (i := 0) rfl (o := 1) rfl
                    have kG2 := S3.cell (i := 0) rfl (o := 2) rfl
                    replace S3 := Lib.hid S3
                    clear hS3
                    go_wp2_with (at_builtin; refine wpList_append_src rfl _ _ rfl Try.underlying28 hi0 hz0 hz1 hz2 rfl (by decide) _ (N+q) _ rfl (S3.out.own (i := 2) rfl) _ 1 1 [.int .i64 6, .int .i64 z2, .int .i64 ((n : Int) - l - 1)] rfl (Src.threeG kG0 kG1 kG2) (by simp [Value.oneCell']) ?c3 ?c4 ?_)
                    case c3 => unfold maxLen; omega
                    case c4 => omega
                    intro vE wE hownE hgE hatE
                    have S4 := (S3.out.own_push (i := 2) rfl (bb _) hownE hgE (by simpa using hatE)).tail
                    simp only [List.set_cons_zero, List.set_cons_succ] at S4
                    obtain ⟨aE, cE, rfl⟩ := own_slice hownE
                    have hS3 := Lib.hid S4
                    clear S3 S4 kG0 kG1 kG2 hownE hgE hatE
                    clear c0 hdw
                    go_wp2_with fail
                    go_roundw
                    case rel =>
                      refine ⟨q + 1, _, _, by omega, by first | rfl | simp, rfl, rfl, ?_, ?_, ?_⟩
                      · unfold Hid; rw [hst2.out, List.length_append, hl3.out]; rfl
                      · unfold Hid; rw [hst2.out]; omega
                      · unfold Hid CiSp; rw [hst2.out]; dsimp only; rw [flat_snoc, hix.out, ← hz3.out]; exact hS3.out
                    case measure => simp [intOf]; omega
                  · have hix : Hid (litIx n l = l - 1) := by unfold Hid litIx; rw [if_neg hneg]
                    have hneg2 : 0 ≤ l := by omega
                    have S3 := hS3.out.alloc_box #[.int .i64 6, .int .i64 z2, .int .i64 (l - 1)] 41
                    (try simp only [World.size_setCell] at S3)
                    have kG0 := S3.cell (i := 0) rfl (o := 0) rfl
                    have kG1 := S3.cell (i := 0) rfl (o := 1) rfl
                    have kG2 := S3.cell (i := 0) rfl (o := 2) rfl
                    replace S3 := Lib.hid S3
                    clear hS3
                    go_wp2_with (at_builtin; refine wpList_append_src rfl _ _ rfl Try.underlying28 hi0 hz0 hz1 hz2 rfl (by decide) _ (N+q) _ rfl (S3.out.own (i := 2) rfl) _ 1 1 [.int .i64 6, .int .i64 z2, .int .i64 (l - 1)] rfl (Src.threeG kG0 kG1 kG2) (by simp [Value.oneCell']) ?c3 ?c4 ?_)
                    case c3 => unfold maxLen; omega
                    case c4 => omega
                    intro vE wE hownE hgE hatE
                    have S4 := (S3.out.own_push (i := 2) rfl (bb _) hownE hgE (by simpa using hatE)).tail
                    simp only [List.set_cons_zero, List.set_cons_succ] at S4
                    obtain ⟨aE, cE, rfl⟩ := own_slice hownE
                    have hS3 := Lib.hid S4
                    clear S3 S4 kG0 kG1 kG2 hownE hgE hatE
                    clear c0 hdw
                    go_wp2_with fail
                    go_roundw
                    case rel =>
                      refine ⟨q + 1, _, _, by omega, by first | rfl | simp, rfl, rfl, ?_, ?_, ?_⟩
                      · unfold Hid; rw [hst2.out, List.length_append, hl3.out]; rfl
                      · unfold Hid; rw [hst2.out]; omega
                      · unfold Hid CiSp; rw [hst2.out]; dsimp only; rw [flat_snoc, hix.out, ← hz3.out]; exact hS3.out
                    case measure => simp [intOf]; omega
                · obtain rfl : L = q := by omega
                  have hcl2 : Hid ((c.take L).foldl (litG n) (M, 2 * n + 1) = c.foldl (litG n) (M, 2 * n + 1)) := by unfold Hid; rw [List.take_of_length_le (by rw [hL.out]; exact Nat.le_refl _)]
                  rw [hcl2.out] at hl3 hz3 hS3
                  have hst2 : Hid (cnfG n (xss.take (j + 1)) = ((c.foldl (litG n) (M, 2 * n + 1)).1 ++ [⟨5, (zn : Nat), ((c.foldl (litG n) (M, 2 * n + 1)).2 : Nat)⟩], N + L)) := by
                    unfold Hid
                    rw [htk.out]
                    unfold clG
                    rw [hl3.out]
                  clear hcl2 htk hT hli1
                  generalize c.foldl (litG n) (M, 2 * n + 1) = t at hl3 hz3 hS3 hst2
                  obtain ⟨T, zt⟩ := t
                  dsimp only at hl3 hz3 hS3 hst2
                  have S3 := hS3.out.alloc_box #[.int .i64 5, .int .i64 z, .int .i64 z2] 41
                  (try simp only [World.size_setCell] at S3)
                  have kG0 := S3.cell (i := 0) rfl (o := 0) rfl
                  have kG1 := S3.cell (i := 0) rfl (o := 1) rfl
                  have kG2 := S3.cell (i := 0) rfl (o := 2) rfl
                  replace S3 := Lib.hid S3
                  clear hS3
                  go_wp2_with (at_builtin; refine wpList_append_src rfl _ _ rfl Try.underlying28 hi0 hz0 hz1 hz2 rfl (by decide) _ (N+L) _ rfl (S3.out.own (i := 2) rfl) _ 1 1 [.int .i64 5, .int .i64 z, .int .i64 z2] rfl (Src.threeG kG0 kG1 kG2) (by simp [Value.oneCell']) ?c3 ?c4 ?_)
                  case c3 => unfold maxLen; omega
                  case c4 => omega
                  intro vE wE hownE hgE hatE
                  have S4 := (S3.out.own_push (i := 2) rfl (bb _) hownE hgE (by simpa using hatE)).tail
                  simp only [List.set_cons_zero, List.set_cons_succ] at S4
                  obtain ⟨aE, cE, rfl⟩ := own_slice hownE
                  have hS3 := Lib.hid S4
                  clear S3 S4 kG0 kG1 kG2 hownE hgE hatE
                  go_wp2_with fail
                  go_roundw
                  case rel =>
                    refine ⟨j + 1, N + L + 1, _, _, by omega, by first | rfl | simp, rfl, rfl, by omega, ?_, ?_, ?_⟩
                    · unfold Hid; rw [hst2.out, List.length_append, hl3.out]; rfl
                    · unfold Hid; rw [hst2.out]; omega
                    · unfold Hid CiSp; rw [hst2.out]; dsimp only; rw [flat_snoc, ← hz3.out, ← hzc.out]; exact hS3.out
                  case measure => simp [intOf]; omega
            · obtain rfl : m = j := by omega
              rw [show xss.take m = xss from List.take_of_length_le (by rw [hme.out]; exact Nat.le_refl _)] at hNl hS
              have hji : ¬ (m : Int) < m := by omega
              have c1 := hS.out.cell (i := 0) rfl (o := 1) rfl
              clear hz hlit hcl hI2
              by_cases h0 : m = 0
              · subst h0
                obtain rfl : xss = [] := List.length_eq_zero_iff.1 hme.out
                have hR : Hid (circR n [] = (cnfG n []).1 ++ [⟨2, 0, 0⟩]) := rfl
                generalize (cnfG n []).1 = R at hNl hS hR
                have hbi : ¬ (200 : Int) < (N : Int) + 1 := by omega
                have hd : Hid (decide ((circR n []).length ≤ 200) = true) := by
                  unfold Hid
                  rw [hR.out, List.length_append, hNl.out]
                  exact decide_eq_true (by simp; omega)
                have S3 := hS.out.alloc_box #[.int .i64 2, .int .i64 0, .int .i64 0] 41
                (try simp only [World.size_setCell] at S3)
                have kG0 := S3.cell (i := 0) rfl (o := 0) rfl
                have kG1 := S3.cell (i := 0) rfl (o := 1) rfl
                have kG2 := S3.cell (i := 0) rfl (o := 2) rfl
                replace S3 := Lib.hid S3
                clear hS
                go_wp2_with (at_builtin; refine wpList_append_src rfl _ _ rfl Try.underlying28 hi0 hz0 hz1 hz2 rfl (by decide) _ N _ rfl (S3.out.own (i := 2) rfl) _ 1 1 [.int .i64 2, .int .i64 0, .int .i64 0] rfl (Src.threeG kG0 kG1 kG2) (by simp [Value.oneCell']) ?c3 ?c4 ?_)
                case c3 => unfold maxLen; omega
                case c4 => omega
                intro vE wE hownE hgE hatE
                have S4 := (S3.out.own_push (i := 2) rfl (bb _) hownE hgE (by simpa using hatE)).tail
                simp only [List.set_cons_zero, List.set_cons_succ] at S4
                obtain ⟨aE, cE, rfl⟩ := own_slice hownE
                have hS := Lib.hid S4
                clear S3 S4 kG0 kG1 kG2 hownE hgE hatE
                have hf : Sp w wE [Own 41 3 (.slice aE (N + 1) cE) (R ++ [(⟨2, 0, 0⟩ : Gt)]).length ((R ++ [(⟨2, 0, 0⟩ : Gt)]).flatMap gtEnc)] := by
                  rw [List.length_append, hNl.out, flat_snoc]
                  exact hS.out.pick [1] rfl
                replace hf := Lib.hid hf
                clear hS c1
                go_wp2_with fail
                go_ret2
                rw [hd.out, hR.out]
                exact GOut.yes hf.out
              · have hR : Hid (circR n xss = (cnfG n xss).1) := by
                  unfold Hid circR
                  rw [if_neg (fun e => h0 (by have := hme.out; rw [e] at this; exact this.symm)), List.append_nil]
                generalize (cnfG n xss).1 = R at hNl hS hR
                have hm0 : ((m : Int) == 0) = false := beq_eq_false_iff_ne.2 (by omega)
                have hm1 : decide ((m : Int) = 0) = false := decide_eq_false (by omega)
                by_cases hbig : N ≤ 200
                · have hbi : ¬ (200 : Int) < N := by omega
                  have hd : Hid (decide ((circR n xss).length ≤ 200) = true) := by unfold Hid; rw [hR.out, hNl.out]; exact decide_eq_true hbig
                  have hf : Sp w wr [Own 41 3 (.slice aO N cO) R.length (R.flatMap gtEnc)] := by rw [hNl.out]; exact hS.out.pick [1] rfl
                  replace hf := Lib.hid hf
                  go_wp2_with fail
                  go_ret2
                  rw [hd.out, hR.out]
                  exact GOut.yes hf.out
                · have hbi : (200 : Int) < N := by omega
                  have hd : Hid (decide ((circR n xss).length ≤ 200) = false) := by unfold Hid; rw [hR.out, hNl.out]; exact decide_eq_false hbig
                  have hB := Lib.hid hS.out.below
                  go_wp2_with fail
                  go_ret2
                  rw [hd.out]
                  exact GOut.no hB.out

set_option maxRecDepth 100000 in
set_option maxHeartbeats 4000000 in
theorem circuitOf_no (vars : Int) (v : Value) (xss : List (List Int)) (F : List Nat) (w : World) (hx : (Ty.slice Ty.int).row false w v xss F) (h1 : goodB vars xss = false) :
    Calls Try.prog 8 #[.agg #[.int .i64 vars, v]] w (GOut w false (circR vars.toNat xss)) := by
  obtain ⟨A, cap, rfl, hI⟩ := cls_row hx
  have S0 := (Sp.start w).alloc_box #[.int .i64 vars, .slice A xss.length cap] 26
  have hcall0 := implIsCnf_any vars _ xss F _ (Ty.row_below hx S0.below (Ty.row_lt hx))
  rw [h1] at hcall0
  replace hcall0 := Lib.hid hcall0
  replace S0 := Lib.hid S0
  clear hx hI
  go_enter Try.func8, Try.ntmps8
  go_wp2_with fail
  refine hcall0.out.mono ?_
  rintro e w1 ⟨rfl, hb1⟩
  have hB := Lib.hid (btr S0.out.below hb1)
  go_wp2_with fail
  go_ret2
  exact GOut.no hB.out
end Go.Proofs.Ytkhopkonddgicaa

/- Contracts: the constants of the reference; equal rows of gates. -/
namespace Go.Proofs.Ytkhopkonddgicaa
open Go.RowKit

set_option maxRecDepth 100000 in
theorem l6Constant_any (q : Bool) (w : World) : Calls Try.prog 77 #[.bool q] w fun e w' => e = .returned (gtV ⟨if q then 2 else 3, 0, 0⟩) ∧ Below w.heap.size w w' := by
  cases q
  · have S5 := (Sp.start w).alloc_box #[.int .i64 3, .int .i64 0, .int .i64 0] 41
    have j0 := S5.cell (i := 0) rfl (o := 0) rfl
    have j1 := S5.cell (i := 0) rfl (o := 1) rfl
    have j2 := S5.cell (i := 0) rfl (o := 2) rfl
    have hB := S5.below
    clear S5
    go_enter Try.func77, Try.ntmps77
    go_wp2_with fail
    exact bodyPost_ret (v := gtV ⟨3, 0, 0⟩) (by simp [results, Try.results77, go_sem, j0, j1, j2]) rfl ⟨rfl, hB⟩
  · have S5 := (Sp.start w).alloc_box #[.int .i64 2, .int .i64 0, .int .i64 0] 41
    have j0 := S5.cell (i := 0) rfl (o := 0) rfl
    have j1 := S5.cell (i := 0) rfl (o := 1) rfl
    have j2 := S5.cell (i := 0) rfl (o := 2) rfl
    have hB := S5.below
    clear S5
    go_enter Try.func77, Try.ntmps77
    go_wp2_with fail
    exact bodyPost_ret (v := gtV ⟨2, 0, 0⟩) (by simp [results, Try.results77, go_sem, j0, j1, j2]) rfl ⟨rfl, hB⟩

set_option maxRecDepth 100000 in
set_option maxHeartbeats 4000000 in
theorem rGates_same (A B : Option Addr) (c d : Nat) (gs : List Gt) (w : World) (hx : GtAt w A gs) (hy : GtAt w B gs) (hl : gs.length ≤ 1000000) :
    Calls Try.prog 10 #[.slice A gs.length c, .slice B gs.length d] w fun e w' => e = .returned (.bool true) ∧ Below w.heap.size w w' := by
  have hX := Lib.hid hx
  have hY := Lib.hid hy
  have hB0 : Hid (Below w.heap.size w w) := Lib.hid (bb w)
  have hst := gt_held
  have hgu := gt_guard
  clear hx hy
  go_enter Try.func10, Try.ntmps10
  go_wp2_with fail
  go_loopw [5] (fun i wr => ∃ k : Nat, k ≤ gs.length ∧ i = .int .i64 k ∧ Hid (Below w.heap.size w wr)) (fun i _ => gs.length - (intOf i).toNat)
  case atStart => exact ⟨0, Nat.zero_le _, rfl, hB0⟩
  case round =>
    obtain ⟨k, hk, rfl, HB⟩ := hrel
    by_cases hlt : k < gs.length
    · obtain ⟨b, off, rfl, m0, m1, m2⟩ := (hX.out.grow HB.out).at_ k hlt
      obtain ⟨b2, off2, rfl, n0, n1, n2⟩ := (hY.out.grow HB.out).at_ k hlt
      have k0 := cell_regrown m0
      have k1 := cell_regrown m1
      have k2 := cell_regrown m2
      have l0 := cell_regrown n0
      have l1 := cell_regrown n1
      have l2 := cell_regrown n2
      generalize gs[k] = m at *
      obtain ⟨v', lo', hi'⟩ := m
      dsimp only at *
      clear m0 m1 m2 n0 n1 n2
      go_wp2_with fail
      refine wp_region_quiet_below (by kernel_rfl) (by kernel_rfl) ?_
      repeat (any_goals (go_big_quiet_step (fail)))
      refine wpQuiet_nil ?_
      rintro w1 ⟨p, rfl⟩
      have HB2 := Lib.hid (btr HB.out (below_regrown _ p.d p.os))
      clear HB k0 k1 k2 l0 l1 l2
      go_wp2_with fail
      go_roundw
      case rel => exact ⟨k + 1, by omega, by go_num, HB2⟩
      case measure => simp [intOf]; omega
    · obtain rfl : k = gs.length := by omega
      go_wp2_with fail
      go_ret
      exact ⟨rfl, HB.out⟩
end Go.Proofs.Ytkhopkonddgicaa

/- Contract: the circuit of a Cnf, in the reference. -/
namespace Go.Proofs.Ytkhopkonddgicaa
open Go.RowKit

set_option maxRecDepth 100000 in
set_option maxHeartbeats 16000000 in
theorem l6OfCnf_any (n : Nat) (v : Value) (xss : List (List Int)) (F : List Nat) (w : World) (hx : (Ty.slice Ty.int).row false w v xss F) (h1 : goodB n xss = true) :
    Calls Try.prog 41 #[.agg #[.int .i64 n, v]] w fun e w' => ∃ u, e = .returned u ∧ Sp w w' [Own 41 3 u (circR n xss).length ((circR n xss).flatMap gtEnc)] := by
  obtain ⟨i0, hi0, hz0, hz1, hz2⟩ := info_parts infoGt
  obtain ⟨A, cap, rfl, hI⟩ := cls_row hx
  have hg := good_cnf h1
  have hn : n ≤ 12 := by omega
  have hm := hg.2.1
  have hcl : Hid (∀ c ∈ xss, c.length ≤ 1000) := fun c hc => (hg.2.2.2 c hc).2
  have hlit := Lib.hid (good_lits h1)
  have S0 := (Sp.start w).alloc_box #[.int .i64 n, .slice A xss.length cap] 26
  have hI2 := Lib.hid hI
  have hn0 : (0 : Int) ≤ n := by omega
  replace S0 := Lib.hid S0
  obtain ⟨m, hme⟩ : ∃ m, xss.length = m := ⟨_, rfl⟩
  rw [hme] at S0 hm
  clear hx hI hg
  rw [hme]
  replace hme := Lib.hid hme
  have S1 := (S0.out.own_made 41 3).pick [1, 0] rfl
  simp only [World.size_alloc] at S1
  replace S1 := Lib.hid S1
  clear S0
  go_enter Try.func41, Try.ntmps41
  go_wp2_with fail
  go_loopw [4, 3] (fun i o wr => ∃ (j : Nat) (ov : Value), j ≤ n ∧ i = .int .i64 ((j : Int) + 1) ∧ o = ov ∧ Hid (CiSp w n A m cap (base1 j) j ov wr)) (fun i _ _ => n + 1 - (intOf i).toNat)
  case atStart => exact ⟨0, _, Nat.zero_le _, rfl, rfl, S1⟩
  case round =>
    obtain ⟨j, ov, hj, rfl, rfl, hS⟩ := hrel
    clear S1
    have c0 := hS.out.cell (i := 0) rfl (o := 0) rfl
    obtain ⟨aO, cO, rfl⟩ := own_slice (hS.out.own (i := 1) rfl)
    by_cases hlt : j < n
    · have hji : ((j : Int) + 1) ≤ n := by omega
      have hw : IntKind.i64.wrap ((j : Int) + 1 + 1) = (j : Int) + 1 + 1 := IntWalk.i64_in _ (by omega)
      have S3 := hS.out.alloc_box #[.int .i64 1, .int .i64 ((j : Int) + 1), .int .i64 0] 41
      (try simp only [World.size_setCell] at S3)
      have kG0 := S3.cell (i := 0) rfl (o := 0) rfl
      have kG1 := S3.cell (i := 0) rfl (o := 1) rfl
      have kG2 := S3.cell (i := 0) rfl (o := 2) rfl
      replace S3 := Lib.hid S3
      clear hS
      go_wp2_with (at_builtin; refine wpList_append_src rfl _ _ rfl Try.underlying28 hi0 hz0 hz1 hz2 rfl (by decide) _ j _ rfl (S3.out.own (i := 2) rfl) _ 1 1 [.int .i64 1, .int .i64 ((j : Int) + 1), .int .i64 0] rfl (Src.threeG kG0 kG1 kG2) (by simp [Value.oneCell']) ?c3 ?c4 ?_)
      case c3 => unfold maxLen; omega
      case c4 => omega
      intro vE wE hownE hgE hatE
      have S4 := (S3.out.own_push (i := 2) rfl (bb _) hownE hgE (by simpa using hatE)).tail
      simp only [List.set_cons_zero, List.set_cons_succ] at S4
      obtain ⟨aE, cE, rfl⟩ := own_slice hownE
      have hS := Lib.hid S4
      clear S3 S4 kG0 kG1 kG2 hownE hgE hatE
      clear c0
      go_wp2_with fail
      go_roundw
      case rel =>
        refine ⟨j + 1, _, by omega, by first | rfl | simp, rfl, ?_⟩
        unfold Hid CiSp
        rw [base1_succ, flat_snoc]
        exact hS.out
      case measure => simp [intOf]; omega
    · obtain rfl : n = j := by omega
      have hji : ¬ ((n : Int) + 1) ≤ n := by omega
      go_wp2_with fail
      clear hji hlt
      go_loopw [5, 3] (fun i o wr => ∃ (j : Nat) (ov : Value), j ≤ n ∧ i = .int .i64 ((j : Int) + 1) ∧ o = ov ∧ Hid (CiSp w n A m cap (base2 n j) (n + j) ov wr)) (fun i _ _ => n + 1 - (intOf i).toNat)
      case atStart => exact ⟨0, _, Nat.zero_le _, rfl, rfl, by unfold Hid; rw [base2_zero]; exact hS.out⟩
      case round =>
        obtain ⟨j, ov, hj, rfl, rfl, hS⟩ := hrel
        clear c0
        have c0 := hS.out.cell (i := 0) rfl (o := 0) rfl
        obtain ⟨aO, cO, rfl⟩ := own_slice (hS.out.own (i := 1) rfl)
        by_cases hlt : j < n
        · have hji : ((j : Int) + 1) ≤ n := by omega
          have hw : IntKind.i64.wrap ((j : Int) + 1 + 1) = (j : Int) + 1 + 1 := IntWalk.i64_in _ (by omega)
          have hw2 : IntKind.i64.wrap ((j : Int) + 1 - 1) = (j : Int) := by rw [show (j : Int) + 1 - 1 = j by omega]; exact IntWalk.i64_in _ (by omega)
          have S3 := hS.out.alloc_box #[.int .i64 4, .int .i64 (j : Int), .int .i64 0] 41
          (try simp only [World.size_setCell] at S3)
          have kG0 := S3.cell (i := 0) rfl (o := 0) rfl
          have kG1 := S3.cell (i := 0) rfl (o := 1) rfl
          have kG2 := S3.cell (i := 0) rfl (o := 2) rfl
          replace S3 := Lib.hid S3
          clear hS
          go_wp2_with (at_builtin; refine wpList_append_src rfl _ _ rfl Try.underlying28 hi0 hz0 hz1 hz2 rfl (by decide) _ (n+j) _ rfl (S3.out.own (i := 2) rfl) _ 1 1 [.int .i64 4, .int .i64 (j : Int), .int .i64 0] rfl (Src.threeG kG0 kG1 kG2) (by simp [Value.oneCell']) ?c3 ?c4 ?_)
          case c3 => unfold maxLen; omega
          case c4 => omega
          intro vE wE hownE hgE hatE
          have S4 := (S3.out.own_push (i := 2) rfl (bb _) hownE hgE (by simpa using hatE)).tail
          simp only [List.set_cons_zero, List.set_cons_succ] at S4
          obtain ⟨aE, cE, rfl⟩ := own_slice hownE
          have hS := Lib.hid S4
          clear S3 S4 kG0 kG1 kG2 hownE hgE hatE
          clear c0
          go_wp2_with fail
          go_roundw
          case rel =>
            refine ⟨j + 1, _, by omega, by first | rfl | simp, rfl, ?_⟩
            unfold Hid CiSp
            rw [base2_succ, flat_snoc]
            exact hS.out
          case measure => simp [intOf]; omega
        · obtain rfl : n = j := by omega
          have hji : ¬ ((n : Int) + 1) ≤ n := by omega
          go_wp2_with fail
          refine (l6Constant_any true _).mono ?_
          rintro e w2 ⟨rfl, hb2⟩
          replace hS := Lib.hid (hS.out.grow hb2)
          clear hb2
          go_wp2_with fail
          refine (l6Constant_any false _).mono ?_
          rintro e w3 ⟨rfl, hb3⟩
          replace hS := Lib.hid (hS.out.grow hb3)
          clear hb3
          have S3 := hS.out.alloc_box #[.int .i64 2, .int .i64 0, .int .i64 0, .int .i64 3, .int .i64 0, .int .i64 0] 41
          have kG0 := S3.cell (i := 0) rfl (o := 0) rfl
          have kG1 := S3.cell (i := 0) rfl (o := 1) rfl
          have kG2 := S3.cell (i := 0) rfl (o := 2) rfl
          have kG3 := S3.cell (i := 0) rfl (o := 3) rfl
          have kG4 := S3.cell (i := 0) rfl (o := 4) rfl
          have kG5 := S3.cell (i := 0) rfl (o := 5) rfl
          replace S3 := Lib.hid S3
          clear hS
          go_wp2_with (at_builtin; refine wpList_append_src rfl _ _ rfl Try.underlying28 hi0 hz0 hz1 hz2 rfl (by decide) _ (n+n) _ rfl (S3.out.own (i := 2) rfl) _ 2 2 [.int .i64 2, .int .i64 0, .int .i64 0, .int .i64 3, .int .i64 0, .int .i64 0] rfl (Src.sixG kG0 kG1 kG2 kG3 kG4 kG5) (by simp [Value.oneCell']) ?c3 ?c4 ?_)
          case c3 => unfold maxLen; omega
          case c4 => omega
          intro vE wE hownE hgE hatE
          have S4 := (S3.out.own_push (i := 2) rfl (bb _) hownE hgE (by simpa using hatE)).tail
          simp only [List.set_cons_zero, List.set_cons_succ] at S4
          obtain ⟨aE, cE, rfl⟩ := own_slice hownE
          clear S3 hownE hgE hatE kG0 kG1 kG2 kG3 kG4 kG5 hji hlt c0
          have hlen0 : Hid ((cnfG n (xss.take 0)).1.length = n + n + 2) := by
            unfold Hid
            show (baseG n).length = _
            rw [base_len]
            omega
          have hS : Hid (CiSp w n A m cap (cnfG n (xss.take 0)).1 (n + n + 2) (.slice aE (n + n + 2) cE) wE) := by
            unfold Hid CiSp
            show Sp w wE [_, Own _ _ _ _ ((baseG n).flatMap gtEnc)]
            rw [base_eq, List.flatMap_append]
            exact S4
          clear S4
          have c0 := hS.out.cell (i := 0) rfl (o := 0) rfl
          have hm1 : IntKind.i64.wrap (2 * (n : Int)) = 2 * (n : Int) := IntWalk.i64_in _ (by omega)
          have hm2 : IntKind.i64.wrap (2 * (n : Int) + 1) = 2 * (n : Int) + 1 := IntWalk.i64_in _ (by omega)
          go_wp2_with fail
          go_region
          replace hS := Lib.hid hS.out.drew
          clear c0 hm1 hm2
          go_wp2_with fail
          go_loopw [8, 3, 6] (fun i o cn wr => ∃ (j N : Nat) (ov : Value) (z : Int), j ≤ m ∧ i = .int .i64 (j : Int) ∧ o = ov ∧ cn = .int .i64 z ∧ N ≤ 26 + 1001 * j ∧ Hid ((cnfG n (xss.take j)).1.length = N) ∧ Hid (z = ((cnfG n (xss.take j)).2 : Nat)) ∧ Hid (CiSp w n A m cap (cnfG n (xss.take j)).1 N ov wr)) (fun i _ _ _ => m - (intOf i).toNat)
          case atStart => exact ⟨0, n + n + 2, _, _, Nat.zero_le _, rfl, rfl, rfl, by omega, hlen0, by unfold Hid; show _ = ((2 * n : Nat) : Int); omega, hS⟩
          case round =>
            obtain ⟨j, N, ov, z, hj, rfl, rfl, rfl, hN, hNl, hz, hS⟩ := hrel
            clear hlen0
            obtain ⟨aO, cO, rfl⟩ := own_slice (hS.out.own (i := 1) rfl)
            by_cases hlt : j < m
            · have hji : (j : Int) < m := by omega
              have hjx : j < xss.length := by rw [hme.out]; exact hlt
              obtain ⟨b, off, B, cB, e, hc, hT⟩ := hI2.out.at_ j hjx
              cases e
              have hcl1 := hcl.out _ (List.getElem_mem hjx)
              have hli1 := hlit.out _ (List.getElem_mem hjx)
              have htk := cnfG_take (n := n) hjx
              generalize xss[j] = c at hc hT hcl1 hli1 htk
              have hcw := (hS.out.below.cell (p := ⟨b, off + j, none⟩) (World.block_lt_of_cell? _ _ hc)).trans hc
              have hzc := hz.out
              generalize cnfG n (xss.take j) = s at hNl hS htk hzc
              clear hz
              obtain ⟨M, zn⟩ := s
              dsimp only at hNl hS hzc
              obtain ⟨L, hL⟩ : ∃ L, c.length = L := ⟨_, rfl⟩
              rw [hL] at hcl1 hcw
              replace hL := Lib.hid hL
              replace hT := Lib.hid hT
              replace hli1 := Lib.hid hli1
              replace htk := Lib.hid htk
              replace hzc := Lib.hid hzc
              have c1 := hS.out.cell (i := 0) rfl (o := 1) rfl
              go_wp2_with fail
              clear hcw c1
              have hl0 : Hid (((c.take 0).foldl (litG n) (M, 2 * n + 1)).1.length = N + 0) := hNl
              go_loopw [10, 3, 9] (fun i o cn wo => ∃ (q : Nat) (ov2 : Value) (z2 : Int), q ≤ L ∧ i = .int .i64 (q : Int) ∧ o = ov2 ∧ cn = .int .i64 z2 ∧ Hid (((c.take q).foldl (litG n) (M, 2 * n + 1)).1.length = N + q) ∧ Hid (z2 = (((c.take q).foldl (litG n) (M, 2 * n + 1)).2 : Nat)) ∧ Hid (CiSp w n (some ⟨b, off, none⟩) m cap ((c.take q).foldl (litG n) (M, 2 * n + 1)).1 (N + q) ov2 wo)) (fun i _ _ _ => L - (intOf i).toNat)
              case atStart => exact ⟨0, _, _, Nat.zero_le _, rfl, rfl, rfl, hl0, by unfold Hid; show _ = ((2 * n + 1 : Nat) : Int); omega, hS⟩
              case round =>
                rename World => wo
                obtain ⟨q, ov2, z2, hq, rfl, rfl, rfl, hl3, hz3, hS3⟩ := hrel
                clear hS hl0
                have hcw := (hS3.out.below.cell (p := ⟨b, off + j, none⟩) (World.block_lt_of_cell? _ _ hc)).trans hc
                rw [hL.out] at hcw
                have c1 := hS3.out.cell (i := 0) rfl (o := 1) rfl
                obtain ⟨aP, cP, rfl⟩ := own_slice (hS3.out.own (i := 1) rfl)
                by_cases hlt2 : q < L
                · have hqi : (q : Int) < L := by omega
                  have hqc : q < c.length := by rw [hL.out]; exact hlt2
                  obtain ⟨bb', ob, e, hd⟩ := hT.out.at_ q hqc
                  cases e
                  have hdw := (hS3.out.below.cell (p := ⟨bb', ob + q, none⟩) (World.block_lt_of_cell? _ _ hd)).trans hd
                  have hln := hli1.out _ (List.getElem_mem hqc)
                  have hst := lits_take (n := n) (M, 2 * n + 1) hqc
                  unfold LitN at hln
                  generalize c[q] = l at hdw hln hst
                  clear hd
                  generalize (c.take q).foldl (litG n) (M, 2 * n + 1) = t at hl3 hz3 hS3 hst
                  obtain ⟨T, zt⟩ := t
                  dsimp only at hl3 hz3 hS3
                  have hst2 : Hid ((c.take (q + 1)).foldl (litG n) (M, 2 * n + 1) = (T ++ [⟨6, (zt : Nat), litIx n l⟩], N + q)) := by
                    unfold Hid
                    rw [hst]
                    unfold litG
                    rw [hl3.out]
                  clear hst
                  have hw1 : IntKind.i64.wrap (l - 1) = l - 1 := IntWalk.i64_in _ (by omega)
                  have hw2 : IntKind.i64.wrap ((n : Int) - l) = (n : Int) - l := IntWalk.i64_in _ (by omega)
                  have hw3 : IntKind.i64.wrap ((n : Int) - l - 1) = (n : Int) - l - 1 := IntWalk.i64_in _ (by omega)
                  have c0 := hS3.out.cell (i := 0) rfl (o := 0) rfl
                  by_cases hneg : l < 0
                  · have hix : Hid (litIx n l = (n : Int) - l - 1) := by unfold Hid litIx; rw [if_pos hneg]
                    have S3 := hS3.out.alloc_box #[.int .i64 6, .int .i64 z2, .int .i64 ((n : Int) - l - 1)] 41
                    (try simp only [World.size_setCell] at S3)
                    have kG0 := S3.cell (i := 0) rfl (o := 0) rfl
                    have kG1 := S3.cell (i := 0) rfl (o := 1) rfl
                    have kG2 := S3.cell (i := 0) rfl (o := 2) rfl
                    replace S3 := Lib.hid S3
                    clear hS3
                    go_wp2_with (at_builtin; refine wpList_append_src rfl _ _ rfl Try.underlying28 hi0 hz0 hz1 hz2 rfl (by decide) _ (N+q) _ rfl (S3.out.own (i := 2) rfl) _ 1 1 [.int .i64 6, .int .i64 z2, .int .i64 ((n : Int) - l - 1)] rfl (Src.threeG kG0 kG1 kG2) (by simp [Value.oneCell']) ?c3 ?c4 ?_)
                    case c3 => unfold maxLen; omega
                    case c4 => omega
                    intro vE wE hownE hgE hatE
                    have S4 := (S3.out.own_push (i := 2) rfl (bb _) hownE hgE (by simpa using hatE)).tail
                    simp only [List.set_cons_zero, List.set_cons_succ] at S4
                    obtain ⟨aE, cE, rfl⟩ := own_slice hownE
                    have hS3 := Lib.hid S4
                    clear S3 S4 kG0 kG1 kG2 hownE hgE hatE
                    clear c0 hdw
                    go_wp2_with fail
                    go_roundw
                    case rel =>
                      refine ⟨q + 1, _, _, by omega, by first | rfl | simp, rfl, rfl, ?_, ?_, ?_⟩
                      · unfold Hid; rw [hst2.out, List.length_append, hl3.out]; rfl
                      · unfold Hid; rw [hst2.out]; omega
                      · unfold Hid CiSp; rw [hst2.out]; dsimp only; rw [flat_snoc, hix.out, ← hz3.out]; exact hS3.out
                    case measure => simp [intOf]; omega
                  · have hix : Hid (litIx n l = l - 1) := by unfold Hid litIx; rw [if_neg hneg]
                    have hneg2 : 0 ≤ l := by omega
                    have S3 := hS3.out.alloc_box #[.int .i64 6, .int .i64 z2, .int .i64 (l - 1)] 41
                    (try simp only [World.size_setCell] at S3)
                    have kG0 := S3.cell (i := 0) rfl (o := 0) rfl
                    have kG1 := S3.cell (i := 0) rfl (o := 1) rfl
                    have kG2 := S3.cell (i := 0) rfl (o := 2) rfl
                    replace S3 := Lib.hid S3
                    clear hS3
                    go_wp2_with (at_builtin; refine wpList_append_src rfl _ _ rfl Try.underlying28 hi0 hz0 hz1 hz2 rfl (by decide) _ (N+q) _ rfl (S3.out.own (i := 2) rfl) _ 1 1 [.int .i64 6, .int .i64 z2, .int .i64 (l - 1)] rfl (Src.threeG kG0 kG1 kG2) (by simp [Value.oneCell']) ?c3 ?c4 ?_)
                    case c3 => unfold maxLen; omega
                    case c4 => omega
                    intro vE wE hownE hgE hatE
                    have S4 := (S3.out.own_push (i := 2) rfl (bb _) hownE hgE (by simpa using hatE)).tail
                    simp only [List.set_cons_zero, List.set_cons_succ] at S4
                    obtain ⟨aE, cE, rfl⟩ := own_slice hownE
                    have hS3 := Lib.hid S4
                    clear S3 S4 kG0 kG1 kG2 hownE hgE hatE
                    clear c0 hdw
                    go_wp2_with fail
                    go_roundw
                    case rel =>
                      refine ⟨q + 1, _, _, by omega, by first | rfl | simp, rfl, rfl, ?_, ?_, ?_⟩
                      · unfold Hid; rw [hst2.out, List.length_append, hl3.out]; rfl
                      · unfold Hid; rw [hst2.out]; omega
                      · unfold Hid CiSp; rw [hst2.out]; dsimp only; rw [flat_snoc, hix.out, ← hz3.out]; exact hS3.out
                    case measure => simp [intOf]; omega
                · obtain rfl : L = q := by omega
                  have hcl2 : Hid ((c.take L).foldl (litG n) (M, 2 * n + 1) = c.foldl (litG n) (M, 2 * n + 1)) := by unfold Hid; rw [List.take_of_length_le (by rw [hL.out]; exact Nat.le_refl _)]
                  rw [hcl2.out] at hl3 hz3 hS3
                  have hst2 : Hid (cnfG n (xss.take (j + 1)) = ((c.foldl (litG n) (M, 2 * n + 1)).1 ++ [⟨5, (zn : Nat), ((c.foldl (litG n) (M, 2 * n + 1)).2 : Nat)⟩], N + L)) := by
                    unfold Hid
                    rw [htk.out]
                    unfold clG
                    rw [hl3.out]
                  clear hcl2 htk hT hli1
                  generalize c.foldl (litG n) (M, 2 * n + 1) = t at hl3 hz3 hS3 hst2
                  obtain ⟨T, zt⟩ := t
                  dsimp only at hl3 hz3 hS3 hst2
                  have S3 := hS3.out.alloc_box #[.int .i64 5, .int .i64 z, .int .i64 z2] 41
                  (try simp only [World.size_setCell] at S3)
                  have kG0 := S3.cell (i := 0) rfl (o := 0) rfl
                  have kG1 := S3.cell (i := 0) rfl (o := 1) rfl
                  have kG2 := S3.cell (i := 0) rfl (o := 2) rfl
                  replace S3 := Lib.hid S3
                  clear hS3
                  go_wp2_with (at_builtin; refine wpList_append_src rfl _ _ rfl Try.underlying28 hi0 hz0 hz1 hz2 rfl (by decide) _ (N+L) _ rfl (S3.out.own (i := 2) rfl) _ 1 1 [.int .i64 5, .int .i64 z, .int .i64 z2] rfl (Src.threeG kG0 kG1 kG2) (by simp [Value.oneCell']) ?c3 ?c4 ?_)
                  case c3 => unfold maxLen; omega
                  case c4 => omega
                  intro vE wE hownE hgE hatE
                  have S4 := (S3.out.own_push (i := 2) rfl (bb _) hownE hgE (by simpa using hatE)).tail
                  simp only [List.set_cons_zero, List.set_cons_succ] at S4
                  obtain ⟨aE, cE, rfl⟩ := own_slice hownE
                  have hS3 := Lib.hid S4
                  clear S3 S4 kG0 kG1 kG2 hownE hgE hatE
                  go_wp2_with fail
                  go_roundw
                  case rel =>
                    refine ⟨j + 1, N + L + 1, _, _, by omega, by first | rfl | simp, rfl, rfl, by omega, ?_, ?_, ?_⟩
                    · unfold Hid; rw [hst2.out, List.length_append, hl3.out]; rfl
                    · unfold Hid; rw [hst2.out]; omega
                    · unfold Hid CiSp; rw [hst2.out]; dsimp only; rw [flat_snoc, ← hz3.out, ← hzc.out]; exact hS3.out
                  case measure => simp [intOf]; omega
            · obtain rfl : m = j := by omega
              rw [show xss.take m = xss from List.take_of_length_le (by rw [hme.out]; exact Nat.le_refl _)] at hNl hS
              have hji : ¬ (m : Int) < m := by omega
              have c1 := hS.out.cell (i := 0) rfl (o := 1) rfl
              clear hz hlit hcl hI2
              by_cases h0 : m = 0
              · subst h0
                obtain rfl : xss = [] := List.length_eq_zero_iff.1 hme.out
                have hR : Hid (circR n [] = (cnfG n []).1 ++ [⟨2, 0, 0⟩]) := rfl
                generalize (cnfG n []).1 = R at hNl hS hR
                go_wp2_with fail
                refine (l6Constant_any true _).mono ?_
                rintro e w4 ⟨rfl, hb4⟩
                replace hS := Lib.hid (hS.out.grow hb4)
                clear hb4 c1
                have S3 := hS.out.alloc_box #[.int .i64 2, .int .i64 0, .int .i64 0] 41
                (try simp only [World.size_setCell] at S3)
                have kG0 := S3.cell (i := 0) rfl (o := 0) rfl
                have kG1 := S3.cell (i := 0) rfl (o := 1) rfl
                have kG2 := S3.cell (i := 0) rfl (o := 2) rfl
                replace S3 := Lib.hid S3
                clear hS
                go_wp2_with (at_builtin; refine wpList_append_src rfl _ _ rfl Try.underlying28 hi0 hz0 hz1 hz2 rfl (by decide) _ N _ rfl (S3.out.own (i := 2) rfl) _ 1 1 [.int .i64 2, .int .i64 0, .int .i64 0] rfl (Src.threeG kG0 kG1 kG2) (by simp [Value.oneCell']) ?c3 ?c4 ?_)
                case c3 => unfold maxLen; omega
                case c4 => omega
                intro vE wE hownE hgE hatE
                have S4 := (S3.out.own_push (i := 2) rfl (bb _) hownE hgE (by simpa using hatE)).tail
                simp only [List.set_cons_zero, List.set_cons_succ] at S4
                obtain ⟨aE, cE, rfl⟩ := own_slice hownE
                have hS := Lib.hid S4
                clear S3 S4 kG0 kG1 kG2 hownE hgE hatE
                have hf : Sp w wE [Own 41 3 (.slice aE (N + 1) cE) (R ++ [(⟨2, 0, 0⟩ : Gt)]).length ((R ++ [(⟨2, 0, 0⟩ : Gt)]).flatMap gtEnc)] := by
                  rw [List.length_append, hNl.out, flat_snoc]
                  exact hS.out.pick [1] rfl
                replace hf := Lib.hid hf
                clear hS
                go_wp2_with fail
                go_ret
                rw [hR.out]
                exact ⟨_, rfl, hf.out⟩
              · have hR : Hid (circR n xss = (cnfG n xss).1) := by
                  unfold Hid circR
                  rw [if_neg (fun e => h0 (by have := hme.out; rw [e] at this; exact this.symm)), List.append_nil]
                generalize (cnfG n xss).1 = R at hNl hS hR
                have hm0 : ((m : Int) == 0) = false := beq_eq_false_iff_ne.2 (by omega)
                have hm1 : decide ((m : Int) = 0) = false := decide_eq_false (by omega)
                have hf : Sp w wr [Own 41 3 (.slice aO N cO) R.length (R.flatMap gtEnc)] := by rw [hNl.out]; exact hS.out.pick [1] rfl
                replace hf := Lib.hid hf
                go_wp2_with fail
                go_ret
                rw [hR.out]
                exact ⟨_, rfl, hf.out⟩

set_option maxRecDepth 100000 in
set_option maxHeartbeats 8000000 in
theorem specCircuitOf_any (vars : Int) (v : Value) (xss : List (List Int)) (F : List Nat) (w : World) (hx : (Ty.slice Ty.int).row false w v xss F) :
    Calls Try.prog 9 #[.agg #[.int .i64 vars, v]] w (GOut w (goodB vars xss && decide ((circR vars.toNat xss).length ≤ 200)) (circR vars.toNat xss)) := by
  obtain ⟨A, cap, rfl, hI⟩ := cls_row hx
  have S0 := (Sp.start w).alloc_box #[.int .i64 vars, .slice A xss.length cap] 26
  have hcall0 := l2Good_any vars _ xss F _ (Ty.row_below hx S0.below (Ty.row_lt hx))
  cases hq : goodB vars xss
  · rw [hq] at hcall0
    rw [Bool.false_and]
    have S1 := S0
    replace hcall0 := Lib.hid hcall0
    replace S0 := Lib.hid S0
    clear hx hI
    go_enter Try.func9, Try.ntmps9
    go_wp2_with fail
    refine hcall0.out.mono ?_
    rintro e w1 ⟨rfl, hb1⟩
    have S2 := Lib.hid ((S0.out.grow hb1).own_made 41 3)
    go_wp2_with fail
    go_ret2
    exact ⟨_, rfl, S2.out.pick [0] rfl⟩
  · rw [hq] at hcall0
    rw [Bool.true_and]
    obtain ⟨n, rfl⟩ : ∃ n : Nat, vars = n := ⟨vars.toNat, by have := good_cnf hq; omega⟩
    rw [Int.toNat_natCast]
    have hsp := Lib.hid (fun W (h : Below w.heap.size w W) => l6OfCnf_any n _ xss F W (Ty.row_below hx h (Ty.row_lt hx)) hq)
    replace hcall0 := Lib.hid hcall0
    replace S0 := Lib.hid S0
    clear hx hI
    go_enter Try.func9, Try.ntmps9
    go_wp2_with fail
    refine hcall0.out.mono ?_
    rintro e w1 ⟨rfl, hb1⟩
    have S1 := S0.out.grow hb1
    have c0 := S1.cell (i := 0) rfl (o := 0) rfl
    have c1 := S1.cell (i := 0) rfl (o := 1) rfl
    have hs2 := Lib.hid (hsp.out _ S1.below)
    replace S1 := Lib.hid (Sp.of_below S1.below)
    clear hsp S0 hcall0 hb1
    go_wp2_with fail
    refine hs2.out.mono ?_
    rintro e w2 ⟨u, rfl, S3⟩
    obtain ⟨aO, cO, rfl⟩ := own_slice (S3.own (i := 0) rfl)
    have S4 := Lib.hid (S1.out.seq S3)
    clear hs2 S1 S3 c0 c1
    generalize circR n xss = R at *
    by_cases hbig : R.length ≤ 200
    · have hbi : ¬ (200 : Int) < R.length := by omega
      have hd : Hid (decide (R.length ≤ 200) = true) := decide_eq_true hbig
      go_wp2_with fail
      go_ret2
      rw [hd.out]
      exact GOut.yes (S4.out.pick [0] rfl)
    · have hbi : (200 : Int) < R.length := by omega
      have hd : Hid (decide (R.length ≤ 200) = false) := decide_eq_false hbig
      have S5 := Lib.hid ((Sp.of_below S4.out.below).own_made 41 3)
      go_wp2_with fail
      go_ret2
      rw [hd.out]
      exact ⟨_, rfl, S5.out⟩

theorem implCircuitOf_any (vars : Int) (v : Value) (xss : List (List Int)) (F : List Nat) (w : World) (hx : (Ty.slice Ty.int).row false w v xss F) :
    Calls Try.prog 8 #[.agg #[.int .i64 vars, v]] w (GOut w (goodB vars xss && decide ((circR vars.toNat xss).length ≤ 200)) (circR vars.toNat xss)) := by
  cases hq : goodB vars xss
  · rw [Bool.false_and]
    exact circuitOf_no vars v xss F w hx hq
  · rw [Bool.true_and]
    obtain ⟨n, rfl⟩ : ∃ n : Nat, vars = n := ⟨vars.toNat, by have := good_cnf hq; omega⟩
    rw [Int.toNat_natCast]
    exact circuitOf_any n v xss F w hx hq
end Go.Proofs.Ytkhopkonddgicaa

/- Contract: the trimmed circuit, in the reference. -/
namespace Go.Proofs.Ytkhopkonddgicaa
open Go.RowKit

theorem two1 {w W : World} {ps : List Asn} {N : Nat} (S : Sp w W ps) (hN : W.heap.size = N) (c : Array Value) (t e : TypeId) (size : Nat) :
    Sp w ((W.alloc (.cells #[] e)).alloc (.cells c t)).drew (Box (N + 1) t c :: Own e size (.slice (some ⟨N, 0, none⟩) 0 0) 0 [] :: ps) := by
  have h := ((S.own_made e size).alloc_box c t).drew
  simp only [World.size_alloc, hN] at h
  exact h
theorem two2 {w W : World} {ps : List Asn} {N : Nat} (S : Sp w W ps) (hN : W.heap.size = N) (c : Array Value) (t e : TypeId) (size : Nat) :
    Sp w ((W.alloc (.cells c t)).alloc (.cells #[] e)).drew (Own e size (.slice (some ⟨N + 1, 0, none⟩) 0 0) 0 [] :: Box N t c :: ps) := by
  have h := ((S.alloc_box c t).own_made e size).drew
  simp only [World.size_alloc, hN] at h
  exact h
/-- Where the needed gates go. -/
def toF (f : Nat → Bool) (q j : Nat) : Nat := if j < q ∧ f j = true then cntF f j else 0

set_option maxRecDepth 100000 in
set_option maxHeartbeats 16000000 in
theorem l6Trim_any {vars : Int} (A : Option Addr) (c : Nat) (gs : List Gt) (w : World) (hx : GtAt w A gs) (hg : OkG vars gs) (hp : 0 < gs.length) (hl : gs.length ≤ 1000) (hv : vars ≤ 1000) :
    Calls Try.prog 58 #[.slice A gs.length c] w fun e w' => ∃ v, e = .returned v ∧ Sp w w' [Own 41 3 v (trimG gs (needL gs)).length ((trimG gs (needL gs)).flatMap gtEnc)] := by
  obtain ⟨i0, hi0, hz0, hz1, hz2⟩ := info_parts infoGt
  have hcall := Lib.hid (l6Needed_any A c gs w hx hg hp hl hv)
  have hall := Lib.hid (trimT_all hg hp)
  have hni := Lib.hid (fun i hi h => needB_ins hg hp (i := i) hi h)
  generalize trimG gs (needL gs) = R at hall ⊢
  generalize needB gs = f at hcall hall hni
  have hmk := fun W => mk_nums gs.length (by omega) (gs.length : Int) rfl W
  obtain ⟨Z, hZ⟩ : ∃ Z, numsA gs.length (fun _ => 0) = Z := ⟨_, rfl⟩
  rw [hZ] at hmk
  replace hZ := Lib.hid hZ
  have hX := Lib.hid hx
  replace hg := Lib.hid hg
  clear hx
  go_enter Try.func58, Try.ntmps58
  go_wp2_with fail
  refine hcall.out.mono ?_
  rintro e w1 ⟨rfl, S1⟩
  obtain ⟨N1, hN1⟩ : ∃ N1, w1.heap.size = N1 := ⟨_, rfl⟩
  clear hcall
  go_upto_region 2 with fail
  go_cut [4, 5] (fun s4 s5 wx => ∃ ob tb : Nat, s4 = .slice (some ⟨ob, 0, none⟩) 0 0 ∧ s5 = .slice (some ⟨tb, 0, none⟩) gs.length gs.length ∧ Hid (Sp w wx [Own 41 3 (.slice (some ⟨ob, 0, none⟩) 0 0) 0 [], Box tb 3 Z, Box w.heap.size 4 (boolsA gs.length f)]))
  case first =>
    go_region
    all_goals go_wp2_with fail
    all_goals go_meet
    all_goals (try rw [hN1])
    all_goals first
      | exact ⟨_, _, rfl, rfl, Lib.hid (Sp.pick [1, 0, 0] (two1 S1 hN1 _ _ _ _) rfl)⟩
      | exact ⟨_, _, rfl, rfl, Lib.hid (Sp.pick [0, 0, 0] (two2 S1 hN1 _ _ _ _) rfl)⟩
  case rest =>
    obtain ⟨ob, tb, rfl, rfl, S2⟩ := hcut
    clear S1 hmk hN1
    have hz3 : Hid (numsA gs.length (toF f 0) = Z) := by
      unfold Hid
      rw [← hZ.out]
      exact numsA_congr fun j _ => by simp [toF]
    go_wp2_with fail
    go_loopw [6, 4] (fun i o wr => ∃ (q : Nat) (ov : Value), q ≤ gs.length ∧ i = .int .i64 (q : Int) ∧ o = ov ∧ Hid (Sp w wr [Own 41 3 ov (cntF f q) ((trimT gs f q).flatMap gtEnc), Box tb 3 (numsA gs.length (toF f q)), Box w.heap.size 4 (boolsA gs.length f)])) (fun i _ _ => gs.length - (intOf i).toNat)
    case atStart => exact ⟨0, _, Nat.zero_le _, rfl, rfl, by unfold Hid; rw [hz3.out]; exact S2.out⟩
    case round =>
      obtain ⟨q, ov, hq, rfl, rfl, hS⟩ := hrel
      clear S2
      obtain ⟨aO, cO, rfl⟩ := own_slice (hS.out.own (i := 0) rfl)
      by_cases hlt : q < gs.length
      · have hqi : (q : Int) < gs.length := by omega
        have hcl := cntF_le f q
        have hts := trimT_succ gs f q
        have hcs := cntF_succ f q
        have t0 := hS.out.cell (i := 2) rfl (o := q) (boolsA_get hlt)
        cases hfq : f q
        · rw [hfq] at t0
          rw [hfq, if_neg (by decide)] at hts hcs
          replace hts := Lib.hid hts
          replace hcs := Lib.hid hcs
          have hnq : Hid (numsA gs.length (toF f q) = numsA gs.length (toF f (q + 1))) := numsA_congr fun j _ => by
            unfold toF
            by_cases e : j = q
            · subst e; simp [hfq]
            · by_cases h : j < q
              · simp [h, Nat.lt_succ_of_lt h]
              · simp [h, show ¬ j < q + 1 by omega]
          go_wp2_with fail
          go_roundw
          case rel =>
            refine ⟨q + 1, _, by omega, by first | rfl | simp, rfl, ?_⟩
            unfold Hid
            rw [hts.out, hcs.out, ← hnq.out]
            exact hS.out
          case measure => simp [intOf]; omega
        · rw [hfq] at t0
          rw [hfq, if_pos rfl] at hts hcs
          have hd : gs.getD q ⟨0, 0, 0⟩ = gs[q] := by rw [List.getD_eq_getElem?_getD, List.getElem?_eq_getElem hlt]; rfl
          rw [hd] at hts
          have t1 := hS.out.cell (i := 1) rfl (o := q) (numsA_get hlt)
          have t2 := hS.out.frozen (i := 1) rfl q
          have S3 := hS.out.store (i := 1) rfl q (.int .i64 (cntF f q : Nat))
          simp only [List.set_cons_zero, List.set_cons_succ] at S3
          rw [numsA_set, numsA_congr (g := toF f (q + 1)) (fun j _ => by
            unfold toF
            by_cases e : j = q
            · subst e; simp [hfq]
            · by_cases h : j < q
              · simp [e, h, Nat.lt_succ_of_lt h]
              · simp [e, h, show ¬ j < q + 1 by omega])] at S3
          obtain ⟨bg, og, e, m0, m1, m2⟩ := (hX.out.grow S3.below).at_ q hlt
          cases e
          have hgx := gtB_iff.1 (hg.out q hlt)
          have hins := ins_lt (hg.out q hlt)
          have hni2 := hni.out q hlt hfq
          generalize gs[q] = g at m0 m1 m2 hgx hins hni2 hts
          have hmv := Lib.hid (l6Moved_any g tb 0 gs.length gs.length (cntF f) (by omega) (by omega) _ (fun k hk => ⟨by have := hins k hk; omega, by
            have h := S3.cell (i := 1) rfl (o := k) (numsA_get (by have := hins k hk; omega))
            have e2 : toF f (q + 1) k = cntF f k := by unfold toF; rw [if_pos ⟨by have := hins k hk; omega, hni2 k hk⟩]
            rw [e2] at h
            rw [Nat.zero_add]
            exact h⟩))
          generalize mvG (cntF f) g = z at hmv hts
          obtain ⟨gk, ga, gb⟩ := g
          obtain ⟨zk, za, zb⟩ := z
          dsimp only at m0 m1 m2
          replace hts := Lib.hid hts
          replace hcs := Lib.hid hcs
          replace S3 := Lib.hid S3
          generalize cntF f q = N at *
          clear hgx hins hni2 hd hS
          go_wp2_with fail
          refine hmv.out.mono ?_
          rintro e w2 ⟨rfl, hb2⟩
          have hS := Lib.hid (S3.out.grow hb2)
          clear S3 hb2 hmv t0 t1 t2 m0 m1 m2
          have S3 := hS.out.alloc_box #[.int .i64 zk, .int .i64 za, .int .i64 zb] 41
          (try simp only [World.size_setCell] at S3)
          have kG0 := S3.cell (i := 0) rfl (o := 0) rfl
          have kG1 := S3.cell (i := 0) rfl (o := 1) rfl
          have kG2 := S3.cell (i := 0) rfl (o := 2) rfl
          replace S3 := Lib.hid S3
          clear hS
          go_wp2_with (at_builtin; refine wpList_append_src rfl _ _ rfl Try.underlying28 hi0 hz0 hz1 hz2 rfl (by decide) _ N _ rfl (S3.out.own (i := 1) rfl) _ 1 1 [.int .i64 zk, .int .i64 za, .int .i64 zb] rfl (Src.threeG kG0 kG1 kG2) (by simp [Value.oneCell']) ?c3 ?c4 ?_)
          case c3 => unfold maxLen; omega
          case c4 => omega
          intro vE wE hownE hgE hatE
          have S4 := (S3.out.own_push (i := 1) rfl (bb _) hownE hgE (by simpa using hatE)).tail
          simp only [List.set_cons_zero, List.set_cons_succ] at S4
          obtain ⟨aE, cE, rfl⟩ := own_slice hownE
          have hS := Lib.hid S4
          clear S3 S4 kG0 kG1 kG2 hownE hgE hatE
          go_wp2_with fail
          go_roundw
          case rel =>
            refine ⟨q + 1, _, by omega, by first | rfl | simp, rfl, ?_⟩
            unfold Hid
            rw [hts.out, hcs.out, flat_snoc]
            exact hS.out
          case measure => simp [intOf]; omega
      · obtain rfl : q = gs.length := by omega
        have hR := hall.out
        have hlen : Hid (R.length = cntF f gs.length) := by unfold Hid; rw [← hR, trimT_len]
        rw [hR] at hS
        replace hR := Lib.hid hR
        go_wp2_with fail
        go_ret
        refine ⟨_, rfl, ?_⟩
        rw [hlen.out]
        exact hS.out.pick [0] rfl
end Go.Proofs.Ytkhopkonddgicaa

/- Contracts: valid circuits, kept gates, in the reference. -/
namespace Go.Proofs.Ytkhopkonddgicaa
open Go.RowKit

theorem l1InG {x lo hi : Int} {q : Bool} (h : inB x lo hi = q) (w : World) : Calls Try.prog 76 #[.int .i64 x, .int .i64 lo, .int .i64 hi] w fun e w' => e = .returned (.bool q) ∧ Below w.heap.size w w' :=
  (l1In_any x lo hi w).mono fun e w' ⟨h1, h2⟩ => ⟨by rw [h1, h], h2 ▸ bb _⟩

set_option maxRecDepth 100000 in
set_option maxHeartbeats 8000000 in
theorem l6Gate_any (vars : Int) (i : Nat) (g : Gt) (hi : i ≤ 1000000) (w : World) : Calls Try.prog 92 #[.int .i64 vars, gtV g, .int .i64 i] w fun e w' => e = .returned (.bool (gtB vars i g)) ∧ Below w.heap.size w w' := by
  obtain ⟨k, a, b⟩ := g
  have hB := bal (bb w) (.cells #[.int .i64 k, .int .i64 a, .int .i64 b] 41)
  have hw : IntKind.i64.wrap ((i : Int) - 1) = (i : Int) - 1 := IntWalk.i64_in _ (by omega)
  replace hB := Lib.hid hB
  by_cases h1 : k = 1
  · subst h1
    rw [gtB_1]
    obtain ⟨q, hq⟩ : ∃ q, inB a 1 vars = q := ⟨_, rfl⟩
    rw [hq]
    have hc := Lib.hid (fun W => l1InG hq W)
    cases q <;> by_cases hb : b = 0
    all_goals
      have k2 := Lib.hid (((Sp.start w).alloc_box #[.int .i64 1, .int .i64 a, .int .i64 b] 41).cell (i := 0) rfl (o := 2) rfl)
      first | subst hb | skip
      go_enter Try.func92, Try.ntmps92
      go_wp2_with fail
      refine (hc.out _).mono ?_
      rintro e w1 ⟨rfl, hb1⟩
      have hB2 := btr hB.out hb1
      have k3 := (bcell hb1).1 _ 2 (World.block_lt_of_cell? _ _ k2.out) ▸ k2.out
      clear k2
      go_wp2_with fail
      go_ret
      exact ⟨by first | rfl | simp [hb], hB2⟩
  by_cases h2 : k = 2
  · subst h2
    rw [gtB_2]
    by_cases ha : a = 0 <;> by_cases hb : b = 0
    all_goals
      first | subst ha | skip
      first | subst hb | skip
      go_enter Try.func92, Try.ntmps92
      go_wp2_with fail
      go_ret
      exact ⟨by first | rfl | simp [ha] | simp [hb] | simp [ha, hb], hB.out⟩
  by_cases h3 : k = 3
  · subst h3
    rw [gtB_3]
    by_cases ha : a = 0 <;> by_cases hb : b = 0
    all_goals
      first | subst ha | skip
      first | subst hb | skip
      go_enter Try.func92, Try.ntmps92
      go_wp2_with fail
      go_ret
      exact ⟨by first | rfl | simp [ha] | simp [hb] | simp [ha, hb], hB.out⟩
  by_cases h4 : k = 4
  · subst h4
    rw [gtB_4]
    obtain ⟨q, hq⟩ : ∃ q, inB a 0 ((i : Int) - 1) = q := ⟨_, rfl⟩
    rw [hq]
    have hc := Lib.hid (fun W => l1InG hq W)
    cases q <;> by_cases hb : b = 0
    all_goals
      have k2 := Lib.hid (((Sp.start w).alloc_box #[.int .i64 4, .int .i64 a, .int .i64 b] 41).cell (i := 0) rfl (o := 2) rfl)
      first | subst hb | skip
      go_enter Try.func92, Try.ntmps92
      go_wp2_with fail
      refine (hc.out _).mono ?_
      rintro e w1 ⟨rfl, hb1⟩
      have hB2 := btr hB.out hb1
      have k3 := (bcell hb1).1 _ 2 (World.block_lt_of_cell? _ _ k2.out) ▸ k2.out
      clear k2
      go_wp2_with fail
      go_ret
      exact ⟨by first | rfl | simp [hb], hB2⟩
  by_cases h5 : k = 5 ∨ k = 6
  · have hg : gtB vars i ⟨k, a, b⟩ = (inB a 0 ((i : Int) - 1) && inB b 0 ((i : Int) - 1)) := by
      rcases h5 with rfl | rfl
      · rfl
      · rfl
    rw [hg]
    obtain ⟨q, hq⟩ : ∃ q, inB a 0 ((i : Int) - 1) = q := ⟨_, rfl⟩
    obtain ⟨q2, hq2⟩ : ∃ q, inB b 0 ((i : Int) - 1) = q := ⟨_, rfl⟩
    rw [hq, hq2]
    have hc := Lib.hid (fun W => l1InG hq W)
    have hc2 := Lib.hid (fun W => l1InG hq2 W)
    have k2 := Lib.hid (((Sp.start w).alloc_box #[.int .i64 k, .int .i64 a, .int .i64 b] 41).cell (i := 0) rfl (o := 2) rfl)
    clear hg hq hq2
    rcases h5 with rfl | rfl
    all_goals
      cases q
      · go_enter Try.func92, Try.ntmps92
        go_wp2_with fail
        refine (hc.out _).mono ?_
        rintro e w1 ⟨rfl, hb1⟩
        have hB2 := btr hB.out hb1
        go_wp2_with fail
        go_ret
        exact ⟨rfl, hB2⟩
      · go_enter Try.func92, Try.ntmps92
        go_wp2_with fail
        refine (hc.out _).mono ?_
        rintro e w1 ⟨rfl, hb1⟩
        have hB2 := btr hB.out hb1
        have k3 := (bcell hb1).1 _ 2 (World.block_lt_of_cell? _ _ k2.out) ▸ k2.out
        clear k2
        go_wp2_with fail
        refine (hc2.out _).mono ?_
        rintro e w2 ⟨rfl, hb2⟩
        have hB3 := btr hB2 hb2
        go_wp2_with fail
        go_ret
        exact ⟨rfl, hB3⟩
  · have h5' : k ≠ 5 := fun e => h5 (.inl e)
    have h6' : k ≠ 6 := fun e => h5 (.inr e)
    rw [gtB_no h1 h2 h3 h4 h5' h6']
    clear h5
    go_enter Try.func92, Try.ntmps92
    go_wp2_with fail
    go_ret
    exact ⟨rfl, hB.out⟩

set_option maxRecDepth 100000 in
set_option maxHeartbeats 8000000 in
theorem l6Good_any (vars : Int) (A : Option Addr) (c : Nat) (gs : List Gt) (w : World) (hx : GtAt w A gs) (hl : gs.length ≤ 1000000) :
    Calls Try.prog 57 #[.int .i64 vars, .slice A gs.length c] w fun e w' => e = .returned (.bool (circB vars gs)) ∧ Below w.heap.size w w' := by
  have hN := Lib.hid hx
  have hz : Hid (gsB vars gs 0 = true) := rfl
  clear hx
  have hcirc : Hid (circB vars gs = (gsB vars gs gs.length && inB vars 0 12 && inB gs.length 1 200)) := rfl
  obtain ⟨q1, hq1⟩ : ∃ q, inB vars 0 12 = q := ⟨_, rfl⟩
  obtain ⟨q2, hq2⟩ : ∃ q, inB gs.length 1 200 = q := ⟨_, rfl⟩
  rw [hq1, hq2] at hcirc
  have h1 := l2Vars_any vars
  rw [hq1] at h1
  have h2 := fun W => l1InG hq2 W
  replace h1 := Lib.hid h1
  replace h2 := Lib.hid h2
  clear hq1 hq2
  cases q1
  · have hR : Hid (circB vars gs = false) := by unfold Hid; rw [hcirc.out, Bool.and_false, Bool.false_and]
    clear hcirc
    go_enter Try.func57, Try.ntmps57
    go_wp2_with fail
    refine (h1.out _).mono ?_
    rintro e w1 ⟨rfl, rfl⟩
    go_wp2_with fail
    go_ret
    exact ⟨ret_bool hR.out.symm, bb _⟩
  cases q2
  · have hR : Hid (circB vars gs = false) := by unfold Hid; rw [hcirc.out, Bool.and_false]
    clear hcirc
    go_enter Try.func57, Try.ntmps57
    go_wp2_with fail
    refine (h1.out _).mono ?_
    rintro e w1 ⟨rfl, rfl⟩
    go_wp2_with fail
    refine (h2.out _).mono ?_
    rintro e w2 ⟨rfl, hb2⟩
    replace hb2 := Lib.hid hb2
    go_wp2_with fail
    go_ret
    exact ⟨ret_bool hR.out.symm, hb2.out⟩
  rw [Bool.and_true, Bool.and_true] at hcirc
  go_enter Try.func57, Try.ntmps57
  go_wp2_with fail
  refine (h1.out _).mono ?_
  rintro e w1 ⟨rfl, rfl⟩
  go_wp2_with fail
  refine (h2.out _).mono ?_
  rintro e w2 ⟨rfl, hb2⟩
  replace hb2 := Lib.hid hb2
  go_wp2_with fail
  go_loopw [5] (fun i wr => ∃ k : Nat, k ≤ gs.length ∧ i = .int .i64 k ∧ Hid (gsB vars gs k = true) ∧ Hid (Below w.heap.size w wr)) (fun i _ => gs.length - (intOf i).toNat)
  case atStart => exact ⟨0, Nat.zero_le _, rfl, hz, hb2⟩
  case round =>
    obtain ⟨k, hk, rfl, HD, HB⟩ := hrel
    clear hb2
    by_cases hlt : k < gs.length
    · obtain ⟨b, off, rfl, m0, m1, m2⟩ := (hN.out.grow HB.out).at_ k hlt
      have hki : (k : Int) < gs.length := by omega
      have hsu := gsB_succ vars gs k
      rw [HD.out, List.getD_eq_getElem?_getD, List.getElem?_eq_getElem hlt] at hsu
      have hall : Hid (gtB vars k gs[k] = false → circB vars gs = false) := by
        intro h
        rw [hcirc.out]
        cases h2 : gsB vars gs gs.length
        · rfl
        · have := gsB_ok.1 h2 k hlt
          rw [h] at this; exact absurd this (by decide)
      have hcall := Lib.hid (l6Gate_any vars k gs[k] (by omega))
      dsimp only [Option.getD_some] at hsu
      generalize gs[k] = g at *
      obtain ⟨gk, ga, gb⟩ := g
      dsimp only at *
      clear HD
      obtain ⟨q, hq⟩ : ∃ q, gtB vars k ⟨gk, ga, gb⟩ = q := ⟨_, rfl⟩
      rw [hq] at hcall hall hsu
      clear hq
      replace hsu := Lib.hid hsu
      go_wp2_with fail
      refine (hcall.out _).mono ?_
      rintro e w3 ⟨rfl, hb1⟩
      have HB3 := Lib.hid (btr HB.out hb1)
      clear HB hb1 m0 m1 m2 hcall
      cases q
      · have hno := Lib.hid (hall.out rfl)
        clear hall
        go_wp2_with fail
        go_ret
        exact ⟨ret_bool hno.out.symm, HB3.out⟩
      · have hD : Hid (gsB vars gs (k + 1) = true) := hsu.out
        go_wp2_with fail
        go_roundw
        case rel => exact ⟨k + 1, by omega, by first | rfl | simp, hD, HB3⟩
        case measure => simp [intOf]; omega
    · obtain rfl : k = gs.length := by omega
      have hR : Hid (circB vars gs = true) := by unfold Hid; rw [hcirc.out, HD.out]
      go_wp2_with fail
      go_ret
      exact ⟨ret_bool hR.out.symm, HB.out⟩

theorem l6Opposite_any (k : Int) (w : World) : Calls Try.prog 62 #[.int .i64 k] w fun e w' => e = .returned (.int .i64 (dualK k)) ∧ w = w' := by
  unfold dualK
  by_cases h5 : k = 5
  · subst h5
    go_enter Try.func62, Try.ntmps62
    go_wp2_with fail
    go_ret
    exact ⟨rfl, rfl⟩
  by_cases h6 : k = 6
  · subst h6
    go_enter Try.func62, Try.ntmps62
    go_wp2_with fail
    go_ret
    exact ⟨rfl, rfl⟩
  by_cases h2 : k = 2
  · subst h2
    go_enter Try.func62, Try.ntmps62
    go_wp2_with fail
    go_ret
    exact ⟨rfl, rfl⟩
  by_cases h3 : k = 3
  · subst h3
    go_enter Try.func62, Try.ntmps62
    go_wp2_with fail
    go_ret
    exact ⟨rfl, rfl⟩
  rw [if_neg h5, if_neg h6, if_neg h2, if_neg h3]
  go_enter Try.func62, Try.ntmps62
  go_wp2_with fail
  go_ret
  exact ⟨rfl, rfl⟩

set_option maxRecDepth 100000 in
set_option maxHeartbeats 8000000 in
theorem l6Keep_any {w0 : World} {ps : List Asn} (u : Value) (M : List Gt) (g : Gt) (w : World) (hok : ∀ x ∈ M, gtOk x) (hl : M.length ≤ 1000) (HS : Sp w0 w (Own 41 3 u M.length (M.flatMap gtEnc) :: ps)) :
    Calls Try.prog 94 #[u, gtV g] w fun e w' => ∃ v', e = .returned (.tuple #[.int .i64 ((keepG M g).2 : Nat), v']) ∧ Sp w0 w' (Own 41 3 v' (keepG M g).1.length ((keepG M g).1.flatMap gtEnc) :: ps) := by
  obtain ⟨v, lo, hi⟩ := g
  obtain ⟨i0, hi0, hz0, hz1, hz2⟩ := info_parts infoGt
  obtain ⟨A, c, rfl, hN⟩ := gt_own (HS.own (i := 0) rfl) hok
  have S0 := Lib.hid (HS.alloc_box #[.int .i64 v, .int .i64 lo, .int .i64 hi] 41)
  clear hN HS
  go_enter Try.func94, Try.ntmps94
  go_wp2_with fail
  go_loopw [6] (fun i wr => ∃ k : Nat, k ≤ M.length ∧ i = .int .i64 k ∧ Hid ((⟨v, lo, hi⟩ : Gt) ∉ M.take k) ∧ Hid (Sp w0 wr (Box w.heap.size 41 #[.int .i64 v, .int .i64 lo, .int .i64 hi] :: Own 41 3 (.slice A M.length c) M.length (M.flatMap gtEnc) :: ps))) (fun i _ => M.length - (intOf i).toNat)
  case atStart => exact ⟨0, Nat.zero_le _, rfl, by unfold Hid; simp, S0⟩
  case round =>
    obtain ⟨k, hk, rfl, HD, HS⟩ := hrel
    clear S0
    by_cases hlt : k < M.length
    · have hki : (k : Int) < M.length := by omega
      obtain ⟨A', c', e', hM⟩ := gt_own (HS.out.own (i := 1) rfl) hok
      cases e'
      obtain ⟨b, off, rfl, m0, m1, m2⟩ := hM.at_ k hlt
      have k0 := cell_regrown m0
      have k1 := cell_regrown m1
      have k2 := cell_regrown m2
      have c0 := cell_regrown (HS.out.cell (i := 0) rfl (o := 0) rfl)
      have c1 := cell_regrown (HS.out.cell (i := 0) rfl (o := 1) rfl)
      have c2 := cell_regrown (HS.out.cell (i := 0) rfl (o := 2) rfl)
      have hyes := Lib.hid (idxG_here hlt HD.out)
      have hno := Lib.hid (idxG_next hlt HD.out)
      have hmem := List.getElem_mem hlt
      generalize M[k] = m at *
      obtain ⟨v', lo', hi'⟩ := m
      dsimp only at *
      clear m0 m1 m2 hM
      have hst := gt_held
      have hgu := gt_guard
      by_cases e : (⟨v', lo', hi'⟩ : Gt) = ⟨v, lo, hi⟩
      · have hR := hyes.out e
        unfold idxG at hR
        rw [← e, if_pos hmem] at hR
        have hK : Hid (keepG M ⟨v, lo, hi⟩ = (M, k)) := by
          unfold Hid keepG
          rw [← e, if_pos hmem]
          congr 1
          omega
        cases e
        clear hyes hno HD hR hmem
        go_wp2_with fail
        refine wp_region_quiet_below (by kernel_rfl) (by kernel_rfl) ?_
        repeat (any_goals (go_big_quiet_step (fail)))
        refine wpQuiet_nil ?_
        rintro w1 ⟨p, rfl⟩
        have HS2 := Lib.hid (HS.out.grow (below_regrown _ p.d p.os)).tail
        clear HS k0 k1 k2 c0 c1 c2
        go_wp2_with fail
        go_ret2
        rw [hK.out]
        exact ⟨_, rfl, HS2.out⟩
      · have hD := Lib.hid (hno.out e)
        have hcase : (¬ v' = v) ∨ (v' = v ∧ ¬ lo' = lo) ∨ (v' = v ∧ lo' = lo ∧ ¬ hi' = hi) := by
          by_cases h1 : v' = v
          · by_cases h2 : lo' = lo
            · exact .inr (.inr ⟨h1, h2, fun h3 => e (by rw [h1, h2, h3])⟩)
            · exact .inr (.inl ⟨h1, h2⟩)
          · exact .inl h1
        clear hyes hno HD e hmem
        rcases hcase with hne | ⟨rfl, hne⟩ | ⟨rfl, rfl, hne⟩
        all_goals
          go_wp2_with fail
          refine wp_region_quiet_below (by kernel_rfl) (by kernel_rfl) ?_
          repeat (any_goals (go_big_quiet_step (fail)))
          refine wpQuiet_nil ?_
          rintro w1 ⟨p, rfl⟩
          have HS2 := Lib.hid (HS.out.grow (below_regrown _ p.d p.os))
          clear HS k0 k1 k2 c0 c1 c2
          go_wp2_with fail
          go_roundw
          case rel => exact ⟨k + 1, by omega, by go_num, hD, HS2⟩
          case measure => simp [intOf]; omega
    · obtain rfl : k = M.length := by omega
      have hK : Hid (keepG M ⟨v, lo, hi⟩ = (M ++ [⟨v, lo, hi⟩], M.length)) := by
        unfold Hid keepG
        have := HD.out
        rw [List.take_length] at this
        rw [if_neg this]
      have c0 := HS.out.cell (i := 0) rfl (o := 0) rfl
      have c1 := HS.out.cell (i := 0) rfl (o := 1) rfl
      have c2 := HS.out.cell (i := 0) rfl (o := 2) rfl
      have hS := HS
      clear HD HS
      have S3 := hS.out.alloc_box #[.int .i64 v, .int .i64 lo, .int .i64 hi] 41
      (try simp only [World.size_setCell] at S3)
      have kG0 := S3.cell (i := 0) rfl (o := 0) rfl
      have kG1 := S3.cell (i := 0) rfl (o := 1) rfl
      have kG2 := S3.cell (i := 0) rfl (o := 2) rfl
      replace S3 := Lib.hid S3
      clear hS
      go_wp2_with (at_builtin; refine wpList_append_src rfl _ _ rfl Try.underlying28 hi0 hz0 hz1 hz2 rfl (by decide) _ M.length _ rfl (S3.out.own (i := 2) rfl) _ 1 1 [.int .i64 v, .int .i64 lo, .int .i64 hi] rfl (Src.threeG kG0 kG1 kG2) (by simp [Value.oneCell']) ?c3 ?c4 ?_)
      case c3 => unfold maxLen; omega
      case c4 => omega
      intro vE wE hownE hgE hatE
      have S4 := (S3.out.own_push (i := 2) rfl (bb _) hownE hgE (by simpa using hatE)).tail
      simp only [List.set_cons_zero, List.set_cons_succ] at S4
      obtain ⟨aE, cE, rfl⟩ := own_slice hownE
      have hS := Lib.hid S4
      clear S3 S4 kG0 kG1 kG2 hownE hgE hatE
      have hT := Lib.hid hS.out.tail
      clear hS c0 c1 c2
      go_wp2_with fail
      go_ret2
      rw [hK.out]
      refine ⟨_, rfl, ?_⟩
      rw [List.length_append, flat_snoc]
      exact hT.out

def sameR (M : List Gt) (g : Gt) (d n : Int) : Int :=
  if kindG M g.a = d then g.a else if kindG M g.b = d then g.b else if kindG M g.a = n ∨ g.a = g.b then g.b else if kindG M g.b = n then g.a else -1

set_option maxRecDepth 100000 in
set_option maxHeartbeats 8000000 in
theorem l6Same_any (A : Option Addr) (c : Nat) (M : List Gt) (g : Gt) (d n : Int) (w : World) (hM : GtAt w A M) (ha : 0 ≤ g.a ∧ g.a < M.length) (hb : 0 ≤ g.b ∧ g.b < M.length) :
    Calls Try.prog 93 #[.slice A M.length c, gtV g, .int .i64 d, .int .i64 n] w fun e w' => e = .returned (.int .i64 (sameR M g d n)) ∧ Below w.heap.size w w' := by
  obtain ⟨k, a', b'⟩ := g
  dsimp only at ha hb
  obtain ⟨a, rfl⟩ : ∃ a : Nat, a' = a := ⟨a'.toNat, by omega⟩
  obtain ⟨b, rfl⟩ : ∃ b : Nat, b' = b := ⟨b'.toNat, by omega⟩
  have hBw := bal (bb w) (.cells #[.int .i64 k, .int .i64 (a : Int), .int .i64 (b : Int)] 41)
  obtain ⟨gb, off, rfl, m0, -, -⟩ := (hM.grow hBw).at_ a (by omega)
  obtain ⟨gb2, off2, e, n0, -, -⟩ := (hM.grow hBw).at_ b (by omega)
  cases e
  have hka : kindG M (a : Int) = M[a].k := kind_at (i := (a : Int)) (by omega)
  have hkb : kindG M (b : Int) = M[b].k := kind_at (i := (b : Int)) (by omega)
  rw [← hka] at m0
  rw [← hkb] at n0
  have hP : Hid (sameR M ⟨k, (a : Int), (b : Int)⟩ d n = if kindG M (a : Int) = d then (a : Int) else if kindG M (b : Int) = d then (b : Int) else if kindG M (a : Int) = n ∨ (a : Int) = b then (b : Int) else if kindG M (b : Int) = n then (a : Int) else -1) := rfl
  generalize kindG M (a : Int) = x at *
  generalize kindG M (b : Int) = y at *
  have hai : (a : Int) < M.length := ha.2
  have hbi : (b : Int) < M.length := hb.2
  have S0 := (Sp.start w).alloc_box #[.int .i64 k, .int .i64 (a : Int), .int .i64 (b : Int)] 41
  have c1 := S0.cell (i := 0) rfl (o := 1) rfl
  have c2 := S0.cell (i := 0) rfl (o := 2) rfl
  replace hBw := Lib.hid hBw
  clear S0 hM hka hkb ha hb
  by_cases h1 : x = d
  · have hR : Hid (sameR M ⟨k, (a : Int), (b : Int)⟩ d n = a) := by unfold Hid; rw [hP.out, if_pos h1]
    clear hP
    go_enter Try.func93, Try.ntmps93
    go_wp2_with fail
    go_ret
    exact ⟨ret_int hR.out.symm, hBw.out⟩
  by_cases h2 : y = d
  · have hR : Hid (sameR M ⟨k, (a : Int), (b : Int)⟩ d n = b) := by unfold Hid; rw [hP.out, if_neg h1, if_pos h2]
    clear hP
    go_enter Try.func93, Try.ntmps93
    go_wp2_with fail
    go_ret
    exact ⟨ret_int hR.out.symm, hBw.out⟩
  by_cases h3 : x = n
  · have hR : Hid (sameR M ⟨k, (a : Int), (b : Int)⟩ d n = b) := by unfold Hid; rw [hP.out, if_neg h1, if_neg h2, if_pos (.inl h3)]
    clear hP
    go_enter Try.func93, Try.ntmps93
    go_wp2_with fail
    go_ret
    exact ⟨ret_int hR.out.symm, hBw.out⟩
  by_cases h5 : (a : Int) = b
  · have hR : Hid (sameR M ⟨k, (a : Int), (b : Int)⟩ d n = b) := by unfold Hid; rw [hP.out, if_neg h1, if_neg h2, if_pos (.inr h5)]
    obtain rfl : a = b := by omega
    clear hP
    go_enter Try.func93, Try.ntmps93
    go_wp2_with fail
    go_ret
    exact ⟨ret_int hR.out.symm, hBw.out⟩
  have h5b : ((a : Int) == (b : Int)) = false := beq_eq_false_iff_ne.2 h5
  by_cases h4 : y = n
  · have hR : Hid (sameR M ⟨k, (a : Int), (b : Int)⟩ d n = a) := by unfold Hid; rw [hP.out, if_neg h1, if_neg h2, if_neg (fun h => h.elim h3 h5), if_pos h4]
    clear hP
    go_enter Try.func93, Try.ntmps93
    go_wp2_with fail
    go_ret
    exact ⟨ret_int hR.out.symm, hBw.out⟩
  have hR : Hid (sameR M ⟨k, (a : Int), (b : Int)⟩ d n = -1) := by unfold Hid; rw [hP.out, if_neg h1, if_neg h2, if_neg (fun h => h.elim h3 h5), if_neg h4]
  clear hP
  go_enter Try.func93, Try.ntmps93
  go_wp2_with fail
  go_ret
  exact ⟨ret_int hR.out.symm, hBw.out⟩
end Go.Proofs.Ytkhopkonddgicaa

/- Contract: a gate is added to a list that lies in a box. -/
namespace Go.Proofs.Ytkhopkonddgicaa
open Go.RowKit

/-- What lies in memory: the list's box, the list, others. -/
abbrev AddSp (w0 : World) (ob : Nat) (sv : Value) (M : List Gt) (ps : List Asn) (w : World) : Prop :=
  Sp w0 w (Box ob 28 #[sv] :: Own 41 3 sv M.length (M.flatMap gtEnc) :: ps)

set_option maxRecDepth 100000 in
set_option maxHeartbeats 8000000 in
theorem addG_any {w0 : World} {ps : List Asn} (ob : Nat) (sv : Value) (M : List Gt) (g : Gt) (w : World) (hl : M.length ≤ 1000) (HS : AddSp w0 ob sv M ps w) :
    Calls Try.prog 50 #[gtV g, .pointer (some ⟨ob, 0, none⟩)] w fun e w' => ∃ sv', e = .returned (.int .i64 (M.length : Nat)) ∧ AddSp w0 ob sv' (M ++ [g]) ps w' := by
  obtain ⟨k, a, b⟩ := g
  obtain ⟨i0, hi0, hz0, hz1, hz2⟩ := info_parts infoGt
  obtain ⟨aS, cS, rfl⟩ := own_slice (HS.own (i := 1) rfl)
  have hw : IntKind.i64.wrap (((M.length + 1 : Nat) : Int) - 1) = (M.length : Int) := by
    rw [show ((M.length + 1 : Nat) : Int) - 1 = (M.length : Int) by omega]; exact IntWalk.i64_in _ (by omega)
  have S3 := HS.alloc_box #[.int .i64 k, .int .i64 a, .int .i64 b] 41
  have c0 := S3.cell (i := 0) rfl (o := 0) rfl
  have c1 := S3.cell (i := 0) rfl (o := 1) rfl
  have c2 := S3.cell (i := 0) rfl (o := 2) rfl
  have c3 := S3.cell (i := 1) rfl (o := 0) rfl
  have S4 := S3.alloc_box #[.int .i64 k, .int .i64 a, .int .i64 b] 41
  simp only [World.size_alloc] at S4
  have k0 := S4.cell (i := 0) rfl (o := 0) rfl
  have k1 := S4.cell (i := 0) rfl (o := 1) rfl
  have k2 := S4.cell (i := 0) rfl (o := 2) rfl
  replace S4 := Lib.hid S4
  clear S3 HS
  go_enter Try.func50, Try.ntmps50
  go_wp2_with (at_builtin; refine wpList_append_src rfl _ _ rfl Try.underlying28 hi0 hz0 hz1 hz2 rfl (by decide) _ M.length _ rfl (S4.out.own (i := 3) rfl) _ 1 1 [.int .i64 k, .int .i64 a, .int .i64 b] rfl (Src.threeG k0 k1 k2) (by simp [Value.oneCell']) ?c3 ?c4 ?_)
  case c3 => unfold maxLen; omega
  case c4 => omega
  intro vE wE hownE hgE hatE
  have S6 := S4.out.own_push (i := 3) rfl (bb _) hownE hgE (by simpa using hatE)
  obtain ⟨aE, cE, rfl⟩ := own_slice hownE
  have e0 := S6.cell (i := 2) rfl (o := 0) rfl
  have e1 := S6.frozen (i := 2) rfl 0
  have S7 := Lib.hid ((S6.store (i := 2) rfl 0 (.slice aE (M.length + 1) cE)).tail).tail
  clear S4 S6 hownE hgE hatE c0 c1 c2 c3 k0 k1 k2
  go_wp2_with fail
  go_ret
  refine ⟨rfl, .slice aE (M.length + 1) cE, ?_⟩
  unfold AddSp
  rw [List.length_append, List.flatMap_append]
  exact S7.out
end Go.Proofs.Ytkhopkonddgicaa
