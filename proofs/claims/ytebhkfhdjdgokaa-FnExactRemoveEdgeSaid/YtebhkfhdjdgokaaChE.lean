/- Contracts: charged graphs compared, marked and held in the law. -/
import Derived.Test.YtebhkfhdjdgokaaChD
namespace Go.Proofs.Ytebhkfhdjdgokaa
open Go.RowKit

set_option maxHeartbeats 1000000 in
theorem eqCharged_same (V : Int) (v u v' u' : Value) (es : List (Int × Int)) (cs : List Int) (F G F' G' : List Nat) (w : World) (hx : tmTy.row false w v es F) (hy : Ty.int.row false w u cs G) (hx' : tmTy.row false w v' es F') (hy' : Ty.int.row false w u' cs G') :
    Calls Try.prog 16 #[.agg #[.int .i64 V, v, u], .agg #[.int .i64 V, v', u']] w fun e w' => e = .returned (.bool true) ∧ Below w.heap.size w w' := by
  obtain ⟨a, c, rfl, _, _⟩ := Ty.row_len hx
  obtain ⟨ua, uc, rfl, _, _⟩ := Ty.row_len hy
  obtain ⟨a', c', rfl, _, _⟩ := Ty.row_len hx'
  obtain ⟨ua', uc', rfl, _, _⟩ := Ty.row_len hy'
  have S0 := ((Sp.start w).alloc_box #[.int .i64 V, .slice a es.length c, .slice ua cs.length uc] 35).alloc_box #[.int .i64 V, .slice a' es.length c', .slice ua' cs.length uc'] 35
  simp only [World.size_alloc] at S0
  have S1 := Lib.hid S0
  clear S0
  go_enter Try.func16, Try.ntmps16
  go_wp2_with fail
  refine (eqIntA2S_same _ _ es F F' _ (Ty.row_below hx S1.out.below (Ty.row_lt hx)) (Ty.row_below hx' S1.out.below (Ty.row_lt hx'))).mono ?_
  rintro e w1 ⟨rfl, hb1⟩
  have S2 := S1.out.grow hb1
  have c0 := S2.cell (i := 0) rfl (o := 2) rfl
  have c1 := S2.cell (i := 1) rfl (o := 2) rfl
  replace S2 := Lib.hid S2
  clear S1
  go_wp2_with fail
  refine (eqIntS_any _ _ cs cs G G' _ (Ty.row_below hy S2.out.below (Ty.row_lt hy)) (Ty.row_below hy' S2.out.below (Ty.row_lt hy'))).mono ?_
  rw [decide_eq_true rfl]
  rintro e w2 ⟨rfl, hb2⟩
  have S3 := S2.out.grow hb2
  replace S3 := Lib.hid S3
  go_wp2_with fail
  go_ret
  exact ⟨rfl, S3.out.below⟩

set_option maxHeartbeats 1000000 in
theorem markCharged_any {w0 : World} {ps : List Asn} {i j : Nat} (V : Int) (v u : Value) (m : Int) (es : List (Int × Int)) (cs : List Int) (w : World) (h : Sp w0 w ps) (hi : ps[i]? = some (Row tmTy v es)) (hj : ps[j]? = some (Row Ty.int u cs)) (hij : i ≠ j) (h0 : 0 ≤ m) (h1 : m + 2 * es.length + cs.length ≤ 1000000000000000000) :
    Calls Try.prog 17 #[.agg #[.int .i64 V, v, u], .int .i64 m] w fun e w' => e = .returned (.int .i64 (m + 2 * es.length + cs.length)) ∧ Sp w0 w' ((ps.set i (Row tmTy v (marksP m es.length))).set j (Row Ty.int u (marks (m + 2 * es.length) cs.length))) := by
  obtain ⟨Fv, hv⟩ := h.row_at hi
  obtain ⟨Fu, hu⟩ := h.row_at hj
  obtain ⟨a, c, rfl, _, _⟩ := Ty.row_len hv
  obtain ⟨ua, uc, rfl, _, _⟩ := Ty.row_len hu
  clear hv hu
  have S0 := h.alloc_box #[.int .i64 V, .slice a es.length c, .slice ua cs.length uc] 35
  have S1 := Lib.hid S0
  have hi' : (Box w.heap.size 35 #[.int .i64 V, .slice a es.length c, .slice ua cs.length uc] :: ps)[i + 1]? = some (Row tmTy (.slice a es.length c) es) := hi
  have hq0 : 0 ≤ m + 2 * (es.length : Int) := by omega
  have hq1 : m + 2 * (es.length : Int) + cs.length ≤ 1000000000000000000 := by omega
  clear S0 h
  go_enter Try.func17, Try.ntmps17
  go_wp2_with fail
  obtain ⟨F1, r1, n1, up1⟩ := S1.out.mark hi'
  refine (markIntA2S_any _ m es F1 _ r1 h0 (by omega)).mono ?_
  rintro e w1 ⟨rfl, hr1, hc1⟩
  have S2 := up1 w1 _ hr1 hc1
  have c0 := S2.cell (i := 0) rfl (o := 2) rfl
  replace S2 := Lib.hid S2
  have hj' : ((Box w.heap.size 35 #[.int .i64 V, .slice a es.length c, .slice ua cs.length uc] :: ps).set (i + 1) (Row tmTy (.slice a es.length c) (marksP m es.length)))[j + 1]? = some (Row Ty.int (.slice ua cs.length uc) cs) := by
    rw [List.getElem?_set_ne (by omega)]; exact hj
  clear S1 up1 r1 hr1 hc1 n1
  obtain ⟨q, hq⟩ : ∃ q, m + 2 * (es.length : Int) = q := ⟨_, rfl⟩
  rw [hq] at hq0 hq1 ⊢
  go_wp2_with fail
  obtain ⟨F2, r2, n2, up2⟩ := S2.out.mark hj'
  refine (markIntS_any _ q cs F2 _ r2 hq0 hq1).mono ?_
  rintro e w2 ⟨rfl, hr2, hc2⟩
  have S3 := up2 w2 _ hr2 hc2
  replace S3 := Lib.hid S3
  go_wp2_with fail
  go_ret
  exact ⟨by rw [hq]; rfl, by rw [hq]; exact S3.out.tail⟩

set_option maxHeartbeats 1000000 in
theorem heldCharged_same (V : Int) (v u : Value) (m : Int) (n k : Nat) (F G : List Nat) (w : World) (hx : tmTy.row false w v (marksP m n) F) (hy : Ty.int.row false w u (marks (m + 2 * n) k) G) (h0 : 0 ≤ m) (h1 : m + 2 * n + k ≤ 1000000000000000000) :
    Calls Try.prog 18 #[.agg #[.int .i64 V, v, u], .int .i64 m] w fun e w' => e = .returned (.int .i64 (m + 2 * n + k)) ∧ Below w.heap.size w w' := by
  obtain ⟨a, c, rfl, _, _⟩ := Ty.row_len hx
  obtain ⟨ua, uc, rfl, _, _⟩ := Ty.row_len hy
  have S0 := (Sp.start w).alloc_box #[.int .i64 V, .slice a (marksP m n).length c, .slice ua (marks (m + 2 * n) k).length uc] 35
  have S1 := Lib.hid S0
  have hq0 : 0 ≤ m + 2 * (n : Int) := by omega
  have hq1 : m + 2 * (n : Int) + k ≤ 1000000000000000000 := by omega
  have hz : heldOf (marks (m + 2 * n) k) (m + 2 * n) = m + 2 * n + k := by unfold heldOf; rw [marks_length, if_pos rfl]
  clear S0
  obtain ⟨q, hq⟩ : ∃ q, m + 2 * (n : Int) = q := ⟨_, rfl⟩
  have h2 := h1
  rw [hq] at hq0 hq1 hz hy S1 h2 ⊢
  have hqn : ¬ q < 0 := by omega
  have hqk : ¬ q + k < 0 := by omega
  go_enter Try.func18, Try.ntmps18
  go_wp2_with fail
  refine (heldIntA2S_same _ m n F _ (Ty.row_below hx S1.out.below (Ty.row_lt hx)) h0 (by omega)).mono ?_
  rw [hq]
  rintro e w1 ⟨rfl, rfl⟩
  go_wp2_with fail
  refine (heldIntS_any _ q _ G _ (Ty.row_below hy S1.out.below (Ty.row_lt hy)) hq0 (by rw [marks_length]; omega)).mono ?_
  rw [hz]
  rintro e w2 ⟨rfl, rfl⟩
  go_wp2_with fail
  go_ret
  exact ⟨rfl, S1.out.below⟩
end Go.Proofs.Ytebhkfhdjdgokaa
