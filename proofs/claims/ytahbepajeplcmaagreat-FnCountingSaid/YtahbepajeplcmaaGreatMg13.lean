/- Lemmas and contracts for a law, put together out of several texts: CuL. -/
import Derived.Test.YtahbepajeplcmaaGreatMg11
import Derived.Test.YtahbepajeplcmaaGreatMg12
import Derived.Test.YtahbepajeplcmaaGreatMg8
import Derived.Test.YtahbepajeplcmaaGreatMg4
import Derived.Test.YtahbepajeplcmaaGreatMg7
import Derived.Test.YtahbepajeplcmaaGreatMg5
/- Facts for the walk of FnCounting. -/
namespace Go.Proofs.YtahbepajeplcmaaGreat
open Go.RowKit

theorem rowC {w : World} {A : Option Addr} {cap : Nat} {xss : List (List Int)} {F : List Nat} (h : (Ty.slice Ty.int).row false w (.slice A xss.length cap) xss F) : ClsAt w A xss := by
  obtain ⟨_, _, e, h⟩ := cls_row h
  cases e
  exact h
theorem goodX_parts {vars : Int} {xss : List (List Int)} (h : goodB vars xss = true) : inB vars 0 12 = true ∧ xss.length ≤ 60 ∧ ∀ c ∈ xss, clauseB vars c = true := by
  unfold goodB at h
  rw [Bool.and_eq_true, Bool.and_eq_true, decide_eq_true_eq, List.all_eq_true] at h
  exact ⟨h.1.1, h.1.2, h.2⟩
theorem goodX_mk {vars : Int} {xss : List (List Int)} (h1 : inB vars 0 12 = true) (h2 : xss.length ≤ 60) (h3 : ∀ c ∈ xss, clauseB vars c = true) : goodB vars xss = true := by
  unfold goodB
  rw [h1, decide_eq_true h2, Bool.and_true, Bool.true_and, List.all_eq_true]
  exact h3
theorem goodX_small {vars : Int} {xss : List (List Int)} (h : goodB vars xss = true) : xss.length ≤ 1000000 ∧ ∀ c ∈ xss, c.length ≤ 1000000 :=
  ⟨by have := (goodX_parts h).2.1; omega, fun c hc => by have := clause_len ((goodX_parts h).2.2 c hc); omega⟩
theorem vCnfX_any (vars : Int) (A A' : Option Addr) (c c' : Nat) (xss : List (List Int)) (F G : List Nat) (w : World) (hx : (Ty.slice Ty.int).row false w (.slice A xss.length c) xss F) (hy : (Ty.slice Ty.int).row false w (.slice A' xss.length c') xss G) (hg : goodB vars xss = true) :
    Calls Tryz.prog 8 #[.agg #[.int .i64 vars, .slice A xss.length c], .agg #[.int .i64 vars, .slice A' xss.length c']] w fun e w' => e = .returned (.bool true) ∧ Below w.heap.size w w' := vCnf_same vars A A' c c' xss w (rowC hx) (rowC hy) (goodX_small hg).1 (goodX_small hg).2
theorem good_zero : goodB 0 [] = true := by decide
theorem give_good (vars : Int) (xss : List (List Int)) : goodB (giveV vars xss) (giveL vars xss) = true := by
  cases h : goodB vars xss
  · rw [(give_no h).1, (give_no h).2]; exact good_zero
  · rw [(give_yes h).1, (give_yes h).2]; exact h
theorem cnt_any (vars : Int) (v : Value) (xss : List (List Int)) (F : List Nat) (w : World) (hx : (Ty.slice Ty.int).row false w v xss F) (h1 : goodB vars xss = true) :
    Calls Tryz.prog 12 #[.agg #[.int .i64 vars, v]] w fun e w' => e = .returned (.tuple #[.int .i64 (cntP (modT xss) (2 ^ vars.toNat)), .bool true]) ∧ Below w.heap.size w w' := countCnfModels_any vars v xss F w hx h1
theorem cnt_small {vars : Int} {xss : List (List Int)} (h : goodB vars xss = true) : cntP (modT xss) (2 ^ vars.toNat) ≤ 4096 := by
  have hv := inB_true.1 (goodX_parts h).1
  exact Nat.le_trans (cntP_le _ _) (Nat.pow_le_pow_right (n := 2) (by omega) (show vars.toNat ≤ 12 by omega))

/-- At most and at least, on both sides. -/
theorem most_gen (n k : Int) : ∃ (va : Int) (ys : List (List Int)) (ok : Bool) (vb : Int) (zs : List (List Int)) (fine : Bool),
    (∀ w, Calls Tryz.prog 6 #[.int .i64 n, .int .i64 k] w (CnfR w va ys ok)) ∧ (∀ w, Calls Tryz.prog 7 #[.int .i64 n, .int .i64 k] w (CnfR w va ys ok)) ∧
    (∀ w, Calls Tryz.prog 9 #[.int .i64 n, .int .i64 k] w (CnfR w vb zs fine)) ∧ (∀ w, Calls Tryz.prog 10 #[.int .i64 n, .int .i64 k] w (CnfR w vb zs fine)) ∧
    goodB va ys = true ∧ goodB vb zs = true ∧ (ok = true → fine = true → ∃ N K : Nat, n = N ∧ k = K ∧ N < 13 ∧ K < 13 ∧ va = N ∧ vb = N ∧ ys = mostL N K ∧ zs = leastL N K) := by
  have hmc : MustC := fun zs A cap w h1 h2 h3 => mustClause_any zs A cap w h1 h2 h3
  cases hq : (inB n 0 12 && inB k 0 12)
  · exact ⟨0, [], false, 0, [], false, fun w => atMostNo_any n k w hq, fun w => specAtMostNo_any n k w hq, fun w => atLeastNo_any n k w hq, fun w => specAtLeastNo_any n k w hq, good_zero, good_zero, by simp⟩
  · rw [Bool.and_eq_true, inB_true, inB_true] at hq
    obtain ⟨N, rfl⟩ := Int.eq_ofNat_of_zero_le hq.1.1
    obtain ⟨K, rfl⟩ := Int.eq_ofNat_of_zero_le hq.2.1
    have hN : N ≤ 12 := by omega
    have hK : K ≤ 12 := by omega
    exact ⟨_, _, _, _, _, _, fun w => atMostYes_any hmc N K w hN hK, fun w => specAtMostYes_any N K w hN hK, fun w => atLeastYes_any hmc N K w hN hK, fun w => specAtLeastYes_any N K w hN hK, give_good _ _, give_good _ _,
      fun h1 h2 => ⟨N, K, rfl, rfl, by omega, by omega, (give_yes h1).1, (give_yes h2).1, (give_yes h1).2, (give_yes h2).2⟩⟩
theorem both_gen (va vb : Int) (A1 A2 : Option Addr) (p1 p2 : Nat) (xss yss : List (List Int)) : ∃ (vc : Int) (zs : List (List Int)) (ok : Bool),
    (∀ (F1 F2 : List Nat) (w : World), (Ty.slice Ty.int).row false w (.slice A1 xss.length p1) xss F1 → (Ty.slice Ty.int).row false w (.slice A2 yss.length p2) yss F2 → Calls Tryz.prog 11 #[.agg #[.int .i64 va, .slice A1 xss.length p1], .agg #[.int .i64 vb, .slice A2 yss.length p2]] w (CnfR w vc zs ok)) ∧
    (∀ (F1 F2 : List Nat) (w : World), (Ty.slice Ty.int).row false w (.slice A1 xss.length p1) xss F1 → (Ty.slice Ty.int).row false w (.slice A2 yss.length p2) yss F2 → Calls Tryz.prog 19 #[.agg #[.int .i64 va, .slice A1 xss.length p1], .agg #[.int .i64 vb, .slice A2 yss.length p2]] w (CnfR w vc zs ok)) ∧
    goodB vc zs = true ∧ (ok = true → vc = max va vb ∧ zs = xss ++ yss) := by
  cases hq : (goodB va xss && goodB vb yss)
  · exact ⟨0, [], false, fun F1 F2 w h1 h2 => bothNo_any va vb A1 A2 p1 p2 xss yss F1 F2 w h1 h2 hq, fun F1 F2 w h1 h2 => specBothNo_any va vb A1 A2 p1 p2 xss yss F1 F2 w h1 h2 hq, good_zero, by simp⟩
  · rw [Bool.and_eq_true] at hq
    exact ⟨_, _, _, fun F1 F2 w h1 h2 => bothYes_any va vb A1 A2 p1 p2 xss yss F1 F2 w h1 h2 hq.1 hq.2, fun F1 F2 w h1 h2 => specBothYes_any va vb A1 A2 p1 p2 xss yss F1 F2 w h1 h2 hq.1 hq.2, give_good _ _, fun h => ⟨(give_yes h).1, (give_yes h).2⟩⟩
theorem apart_count {va vb : Int} {xss yss : List (List Int)} (h1 : goodB va xss = true) (h2 : goodB vb yss = true) : cntP (modT (apaL va xss yss)) (2 ^ (va + vb).toNat) = cntP (modT xss) (2 ^ va.toNat) * cntP (modT yss) (2 ^ vb.toNat) := by
  have hv1 := inB_true.1 (goodX_parts h1).1
  have hv2 := inB_true.1 (goodX_parts h2).1
  obtain ⟨n, rfl⟩ := Int.eq_ofNat_of_zero_le hv1.1
  obtain ⟨m, rfl⟩ := Int.eq_ofNat_of_zero_le hv2.1
  have e1 : ((n : Int) + (m : Int)).toNat = n + m := by omega
  rw [e1, Int.toNat_natCast, Int.toNat_natCast, Nat.pow_add, ← cnt_apart]
  apply cntW_congr
  intro b _
  unfold apaL
  refine mod_apart (fun c hc l hl => ?_) (fun c hc l hl => ?_) b
  · have h := clause_smallX ((goodX_parts h1).2.2 c hc) l hl
    have hL := (goodX_parts h1).2.2 c hc
    refine ⟨h.1, ?_⟩
    have h3 := clause_top hL l hl
    omega
  · exact (clause_smallX ((goodX_parts h2).2.2 c hc) l hl).1
theorem apart_gen (va vb : Int) (A1 A2 : Option Addr) (p1 p2 : Nat) (xss yss : List (List Int)) : ∃ (vc : Int) (zs : List (List Int)) (ok : Bool),
    (∀ (F1 F2 : List Nat) (w : World), (Ty.slice Ty.int).row false w (.slice A1 xss.length p1) xss F1 → (Ty.slice Ty.int).row false w (.slice A2 yss.length p2) yss F2 → Calls Tryz.prog 17 #[.agg #[.int .i64 va, .slice A1 xss.length p1], .agg #[.int .i64 vb, .slice A2 yss.length p2]] w (CnfR w vc zs ok)) ∧
    (∀ (F1 F2 : List Nat) (w : World), (Ty.slice Ty.int).row false w (.slice A1 xss.length p1) xss F1 → (Ty.slice Ty.int).row false w (.slice A2 yss.length p2) yss F2 → Calls Tryz.prog 18 #[.agg #[.int .i64 va, .slice A1 xss.length p1], .agg #[.int .i64 vb, .slice A2 yss.length p2]] w (CnfR w vc zs ok)) ∧
    goodB vc zs = true ∧ (ok = true → goodB va xss = true ∧ goodB vb yss = true ∧ cntP (modT zs) (2 ^ vc.toNat) = cntP (modT xss) (2 ^ va.toNat) * cntP (modT yss) (2 ^ vb.toNat)) := by
  cases hq : (goodB va xss && goodB vb yss)
  · exact ⟨0, [], false, fun F1 F2 w h1 h2 => apartNo_any va vb A1 A2 p1 p2 xss yss F1 F2 w h1 h2 hq, fun F1 F2 w h1 h2 => specApartNo_any va vb A1 A2 p1 p2 xss yss F1 F2 w h1 h2 hq, good_zero, by simp⟩
  · rw [Bool.and_eq_true] at hq
    by_cases hs : va + vb ≤ 12
    · exact ⟨_, _, _, fun F1 F2 w h1 h2 => apartYes_any va vb A1 A2 p1 p2 xss yss F1 F2 w h1 h2 hq.1 hq.2, fun F1 F2 w h1 h2 => specApartYes_any va vb A1 A2 p1 p2 xss yss F1 F2 w h1 h2 hq.1 hq.2 hs, give_good _ _,
        fun h => ⟨hq.1, hq.2, by rw [(give_yes h).1, (give_yes h).2]; exact apart_count hq.1 hq.2⟩⟩
    · have hg : goodB (va + vb) (apaL va xss yss) = false := by
        rw [Bool.eq_false_iff]
        intro h
        have := inB_true.1 (goodX_parts h).1
        omega
      refine ⟨0, [], false, fun F1 F2 w h1 h2 => ?_, fun F1 F2 w h1 h2 => specApartFar_any va vb A1 A2 p1 p2 xss yss F1 F2 w h1 h2 hq.1 hq.2 (by omega), good_zero, by simp⟩
      have := apartYes_any va vb A1 A2 p1 p2 xss yss F1 F2 w h1 h2 hq.1 hq.2
      rw [(give_no hg).1, (give_no hg).2, hg] at this
      exact this
theorem xor_good {vars : Int} {L : List Int} (h : xokB vars L = true) (odd : Bool) : goodB vars (xorL L odd) = true := by
  obtain ⟨h1, h2, -, h4⟩ := xok_parts h
  have hv : inB vars 0 12 = true := by
    unfold clauseB at h1
    rw [Bool.and_eq_true] at h1
    exact h1.1
  refine goodX_mk hv ?_ fun c hc => ?_
  · rw [← xorK_all]
    have h3 := xorK_len L odd (2 ^ L.length)
    have h5 : 2 ^ L.length ≤ 2 ^ 5 := Nat.pow_le_pow_right (by decide) h2
    omega
  · have hm : c ∈ (List.range (2 ^ L.length)).map (rowG L L.length) := by
      rw [← xorK_all] at hc
      exact (List.mem_filter.1 hc).1
    obtain ⟨b, -, rfl⟩ := List.mem_map.1 hm
    refine good_clause (inB_true.1 hv) (rowG_good (xok_asc h) b) fun l hl => ?_
    unfold rowG at hl
    obtain ⟨j, hj, rfl⟩ := List.mem_map.1 hl
    have hj := List.mem_range.1 hj
    rw [List.getD_eq_getElem?_getD, List.getElem?_eq_getElem hj, Option.getD_some]
    have h5 := clause_top h1 _ (List.getElem_mem hj)
    split <;> omega
theorem xor_gen (vars : Int) (L : List Int) (odd : Bool) (A : Option Addr) (cap : Nat) (hl : L.length ≤ 1000000) : ∃ (va : Int) (ys : List (List Int)) (ok : Bool) (vb : Int) (zs : List (List Int)) (ok2 : Bool),
    (∀ (F : List Nat) (w : World), Ty.int.row false w (.slice A L.length cap) L F → Calls Tryz.prog 14 #[.int .i64 vars, .slice A L.length cap, .bool odd] w (CnfR w va ys ok)) ∧
    (∀ (F : List Nat) (w : World), Ty.int.row false w (.slice A L.length cap) L F → Calls Tryz.prog 15 #[.int .i64 vars, .slice A L.length cap, .bool odd] w (CnfR w va ys ok)) ∧
    (∀ (F : List Nat) (w : World), Ty.int.row false w (.slice A L.length cap) L F → Calls Tryz.prog 14 #[.int .i64 vars, .slice A L.length cap, .bool (!odd)] w (CnfR w vb zs ok2)) ∧
    goodB va ys = true ∧ goodB vb zs = true ∧ (ok = true → L ≠ [] → ok2 = true ∧ ∃ N : Nat, vars = N ∧ N ≤ 12 ∧ 2 * cntP (modT ys) (2 ^ va.toNat) = 2 ^ N ∧ 2 * cntP (modT zs) (2 ^ vb.toNat) = 2 ^ N) := by
  cases hq : xokB vars L
  · exact ⟨0, [], false, 0, [], false, fun F w h => by have := implXor_any vars _ L odd F w h; rw [hq] at this; exact this, fun F w h => by have := specXor_any vars _ L odd F w h hl; rw [hq] at this; exact this,
      fun F w h => by have := implXor_any vars _ L (!odd) F w h; rw [hq] at this; exact this, good_zero, good_zero, by simp⟩
  · have g1 := xor_good hq odd
    have g2 := xor_good hq (!odd)
    have hv := inB_true.1 (goodX_parts g1).1
    obtain ⟨N, rfl⟩ := Int.eq_ofNat_of_zero_le hv.1
    have hp := (xok_parts hq).2.2.2
    have ha := xok_asc hq
    refine ⟨_, _, _, _, _, _, fun F w h => by have := implXor_any N _ L odd F w h; rw [hq] at this; exact this, fun F w h => by have := specXor_any N _ L odd F w h hl; rw [hq] at this; exact this,
      fun F w h => by have := implXor_any N _ L (!odd) F w h; rw [hq] at this; exact this, give_good _ _, give_good _ _, fun _ hne => ⟨g2, N, rfl, by omega, ?_, ?_⟩⟩
    all_goals
      rw [(give_yes ‹_›).1, (give_yes ‹_›).2, Int.toNat_natCast]
    · rw [cntW_congr (fun b _ => mod_xor (fun v hv => by have := hp v hv; omega) odd b)]
      exact par_half N hne (fun v hv => ⟨(hp v hv).1, clause_topN (xok_parts hq).1 v hv⟩) (ha.1.imp fun h => by omega) odd
    · rw [cntW_congr (fun b _ => mod_xor (fun v hv => by have := hp v hv; omega) (!odd) b)]
      exact par_half N hne (fun v hv => ⟨(hp v hv).1, clause_topN (xok_parts hq).1 v hv⟩) (ha.1.imp fun h => by omega) (!odd)
/-- At most k and at least k: the choices. -/
theorem both_count {N K : Nat} (h1 : goodB N (mostL N K) = true) (h2 : goodB N (leastL N K) = true) : cntP (modT (mostL N K ++ leastL N K)) (2 ^ N) = binN N K := by
  rw [← cnt_bin]
  apply cntW_congr
  intro b _
  exact mod_both (goodX_parts h1).2.1 (goodX_parts h2).2.1
theorem chs_step : ∀ n : Nat, n < 13 → ∀ i : Nat, i < 12 → 0 ≤ chsI (n : Int) i * ((n : Int) - i) ∧ chsI (n : Int) i * ((n : Int) - i) ≤ 1000000 := by decide
end Go.Proofs.YtahbepajeplcmaaGreat
