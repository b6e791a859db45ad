/- Lemmas and contracts for a law, put together out of several texts: CurK MdD MdE MdF MdP MdT BrA CoA CoB. -/
import Derived.Test.YtmikconjhmhekaaMg3
import Derived.Test.YtmikconjhmhekaaMg1
import Derived.Deep.DeepCutAuto
import Derived.Deep.CutBlock
import Derived.Lib.SliceRun
import Derived.Lib.Hide
/- Contracts: clauses that are drawn. -/
namespace Go.Proofs.Ytmikconjhmhekaa
open Go.RowKit

theorem own_row {w : World} {B : Nat} {e : TypeId} {v : Value} {cs : List Int} (h : w.ownsRow B e 1 v cs.length (cs.map (.int .i64))) (hok : ∀ c ∈ cs, I64 c) : ∃ F, Ty.int.row true w v cs F ∧ F.Nodup ∧ ∀ b ∈ F, B ≤ b := by
  obtain ⟨F, hr, hF, hB⟩ := Ty.row_of_owns (T := Ty.int) h rfl (by decide) (Ty.all_int hok)
  refine ⟨F, hr, ?_, ?_⟩
  · rcases hF with rfl | ⟨g, _, _, _, rfl⟩ <;> simp
  · rcases hF with rfl | ⟨g, hg, _, _, rfl⟩
    · simp
    · intro b hb
      simp at hb
      omega
/-- Numbers that lie within bounds. -/
def Within (m : Int) (c : List Int) : Prop := ∀ x ∈ c, -m ≤ x ∧ x ≤ m
theorem Within.i64 {m : Int} {c : List Int} (h : Within m c) (hm : m ≤ 1000000) : ∀ x ∈ c, I64 x := fun x hx => by
  have := h x hx; unfold I64; omega
theorem within_without {m : Int} {c : List Int} (h : Within m c) (v : Int) : Within m (withoutB c v) := fun x hx => h x (List.mem_filter.1 hx).1
theorem within_put {m : Int} {c : List Int} {l : Int} (h : Within m c) (hl : -m ≤ l ∧ l ≤ m) : Within m (putB c l) := fun x hx => by
  unfold putB at hx
  rcases List.mem_append.1 hx with hx | hx
  · exact h x (List.mem_of_mem_take hx)
  · rcases List.mem_cons.1 hx with rfl | hx
    · exact hl
    · exact h x (List.mem_of_mem_drop hx)
/-- A drawn row of numbers. -/
def RowPost (n : Nat) (R : List Int → Prop) (A g : Nat) (ca : Option Addr) (cl cc : Nat) (w : World) (e : Ending) (w' : World) : Prop :=
  ∃ v c, e = .returned v ∧ w'.ownsRow w.heap.size 3 1 v c.length (c.map (.int .i64)) ∧ c.length ≤ n ∧ R c ∧ CurIs A g ca cl cc w' ∧ Chg [g] w w'

set_option maxRecDepth 100000 in
set_option maxHeartbeats 8000000 in
theorem cur_clause (vars : Int) (hv : -1 ≤ vars ∧ vars ≤ 13) (A g : Nat) (ca : Option Addr) (cl cc : Nat) (w : World) (h : CurIs A g ca cl cc w) (hA : A ≤ 50000000) :
    Calls Try.prog 109 #[.pointer (some ⟨g, 0, none⟩), .int .i64 vars] w (RowPost 4 (Within 13) (A + 60) g ca cl cc w) := by
  have hg := h.lt
  have S0 := (CS.start h).own_made 3 1
  have S2 := Lib.hid (S0.alloc (.cells #[.int .i64 1, .int .i64 2, .int .i64 2, .int .i64 3, .int .i64 3, .int .i64 4, .int .i64 0, .int .i64 2] 3))
  have hcall := Lib.hid (cur_among 0 4 (w.heap.size + 1) 0 8 8 A g ca cl cc _ S2.out.cur (by omega) (by decide) (by decide) (ints_new (by simp) fun j hj => by
    match j, hj with
    | 0, _ => exact ⟨_, rfl, by decide, by decide⟩
    | 1, _ => exact ⟨_, rfl, by decide, by decide⟩
    | 2, _ => exact ⟨_, rfl, by decide, by decide⟩
    | 3, _ => exact ⟨_, rfl, by decide, by decide⟩
    | 4, _ => exact ⟨_, rfl, by decide, by decide⟩
    | 5, _ => exact ⟨_, rfl, by decide, by decide⟩
    | 6, _ => exact ⟨_, rfl, by decide, by decide⟩
    | 7, _ => exact ⟨_, rfl, by decide, by decide⟩) (by omega))
  clear S0
  go_enter Try.func109, Try.ntmps109
  go_wp2_with fail
  refine hcall.out.mono ?_
  rintro e w2 ⟨_, ⟨m0, hm0, hm1, rfl⟩, rfl, hi2, hc2⟩
  have S3 := S2.out.turn hi2 hc2
  obtain ⟨m, rfl⟩ := Int.eq_ofNat_of_zero_le hm0
  have HS0 : Hid (CS w g ca cl cc (A + 10 + 10 * (4 - m)) w2 [Own 3 1 (.slice (some ⟨w.heap.size, 0, none⟩) ([] : List Int).length 0) ([] : List Int).length (([] : List Int).map (.int .i64))]) := S3.mono (by omega)
  clear S2 S3 hcall hi2 hc2
  go_wp2_with fail
  go_loopw [5, 6, 7] (fun vo vn _ wr => ∃ (m : Nat) (c : List Int) (B : Option Addr) (cap : Nat), m ≤ 4 ∧ c.length + m ≤ 4 ∧ vn = .int .i64 m ∧ vo = .slice B c.length cap ∧ Hid (Within 13 c) ∧ Hid (CS w g ca cl cc (A + 10 + 10 * (4 - m)) wr [Own 3 1 (.slice B c.length cap) c.length (c.map (.int .i64))])) (fun _ vn _ _ => (intOf vn).toNat)
  case atStart => exact ⟨m, [], _, _, by omega, by simp; omega, rfl, rfl, fun x hx => by simp at hx, HS0⟩
  case round =>
    obtain ⟨m, c, B, cap, hm4, hcm, rfl, rfl, HW, HS⟩ := hrel
    clear HS0
    go_upto_region 3 with fail
    go_cut [17] (fun s wx => ∃ q : Bool, s = .bool q ∧ Hid (q = true → 0 < m ∧ 0 < vars) ∧ Hid (CS w g ca cl cc (A + 10 + 10 * (4 - m)) wx [Own 3 1 (.slice B c.length cap) c.length (c.map (.int .i64))]))
    case first =>
      have hcond : (0 < m ∧ 0 < vars) ∨ ¬ 0 < m ∨ (0 < m ∧ ¬ 0 < vars) := by omega
      rcases hcond with ⟨hm, hn0⟩ | hm | ⟨hm, hn0⟩
      · have d1 : decide ((0 : Int) < (m : Int)) = true := decide_eq_true (by omega)
        have d2 : decide ((0 : Int) < vars) = true := decide_eq_true (by omega)
        go_wp2_with fail
        go_meet
        exact ⟨true, rfl, fun _ => ⟨hm, hn0⟩, HS⟩
      · have d1 : decide ((0 : Int) < (m : Int)) = false := decide_eq_false (by omega)
        go_wp2_with fail
        go_meet
        exact ⟨false, rfl, (fun e => by cases e), HS⟩
      · have d1 : decide ((0 : Int) < (m : Int)) = true := decide_eq_true (by omega)
        have d2 : decide ((0 : Int) < vars) = false := decide_eq_false (by omega)
        go_wp2_with fail
        go_meet
        exact ⟨false, rfl, (fun e => by cases e), HS⟩
    case rest =>
    clear HS
    obtain ⟨q, rfl, hq, HS⟩ := hcut
    cases q
    · have ho := Lib.hid (HS.out.owns_end (i := 0) rfl)
      have hI := Lib.hid (HS.out.cur.mono (show A + 10 + 10 * (4 - m) ≤ A + 60 by omega))
      have hC := Lib.hid HS.out.chg
      clear HS hq
      go_wp2_with fail
      go_ret
      exact ⟨_, c, rfl, ho.out, by omega, HW.out, hI.out, hC.out⟩
    · obtain ⟨hm, hn0⟩ := hq.out rfl
      clear hq
      have hcur := Lib.hid HS.out.cur
      have hmw : IntKind.i64.wrap ((m : Int) - 1) = ((m - 1 : Nat) : Int) := by rw [IntWalk.i64_in _ (by omega)]; omega
      go_wp2_with fail
      refine (cur_pick_at (lo := 0) (hi := vars - 1) hcur.out (by omega) (by omega) (by omega) (by omega) (by omega)).mono ?_
      rintro e w3 ⟨_, ⟨x, hx0, hx1, rfl⟩, rfl, hi3, hc3⟩
      have hxw : IntKind.i64.wrap (1 + x) = 1 + x := IntWalk.i64_in _ (by omega)
      have hxw2 : IntKind.i64.wrap (-(1 + x)) = -(1 + x) := IntWalk.i64_in _ (by omega)
      have S3 := HS.out.turn hi3 hc3
      obtain ⟨F, hr, _, _⟩ := own_row (S3.own (i := 0) rfl) (HW.out.i64 (by decide))
      have hwo := Lib.hid (l2Without_any _ c (1 + x) F w3 (Ty.row_down hr) (by omega))
      replace S3 := Lib.hid S3
      clear HS hcur hi3 hc3 hr
      go_wp2_with fail
      refine hwo.out.mono ?_
      rintro e w4 ⟨v4, rfl, ho4, hb4⟩
      have S4 := (S3.out.own_new hb4 (owns_zero ho4) (owns_ge ho4)).third2
      have HW4 := Lib.hid (within_without HW.out (1 + x))
      have hl4 : (withoutB c (1 + x)).length ≤ c.length := List.length_filter_le _ _
      obtain ⟨B4, cap4, rfl⟩ := own_slice ho4
      generalize withoutB c (1 + x) = c4 at *
      replace S4 := Lib.hid S4
      clear S3 hwo ho4 hb4 HW
      go_wp2_with fail
      refine (cur_one 2 _ g ca cl cc _ S4.out.cur (by omega) (by omega)).mono ?_
      rintro e w5 ⟨_, ⟨q, rfl⟩, rfl, hi5, hc5⟩
      have S5 := Lib.hid (S4.out.turn hi5 hc5)
      clear S4 hi5 hc5
      go_upto_if 28 with fail
      go_cut [7] (fun s wx => ∃ l : Int, s = .int .i64 l ∧ -13 ≤ l ∧ l ≤ 13 ∧ Hid (CS w g ca cl cc (A + 10 + 10 * (4 - m) + 4) wx [Own 3 1 (.slice B4 c4.length cap4) c4.length (c4.map (.int .i64))]))
      case first =>
        cases q
        · go_wp2_with fail
          go_meet
          exact ⟨1 + x, rfl, by omega, by omega, S5.out.mono (by omega)⟩
        · go_wp2_with fail
          go_meet
          exact ⟨-(1 + x), rfl, by omega, by omega, S5.out.mono (by omega)⟩
      case rest =>
      clear S5
      obtain ⟨l, rfl, hl0, hl1, HS⟩ := hcut
      obtain ⟨F5, hr5, _, _⟩ := own_row (HS.out.own (i := 0) rfl) (HW4.out.i64 (by decide))
      have hpu := Lib.hid (l2Put_any _ c4 l F5 _ (Ty.row_down hr5) (by omega))
      clear hr5
      go_wp2_with fail
      refine hpu.out.mono ?_
      rintro e w6 ⟨v6, rfl, ho6, hb6⟩
      have S6 := (HS.out.own_new hb6 (owns_zero ho6) (owns_ge ho6)).third2
      have HW6 := Lib.hid (within_put HW4.out ⟨hl0, hl1⟩)
      have hl6 := put_len c4 l
      obtain ⟨B6, cap6, rfl⟩ := own_slice ho6
      generalize putB c4 l = c6 at *
      have S7 : Hid (CS w g ca cl cc (A + 10 + 10 * (4 - (m - 1))) w6 [Own 3 1 (.slice B6 c6.length cap6) c6.length (c6.map (.int .i64))]) := S6.mono (by omega)
      replace hl6 := Lib.hid hl6
      clear HS hpu ho6 hb6 S6
      go_wp2_with fail
      go_roundw
      case rel => exact ⟨m - 1, c6, B6, cap6, by omega, by rw [hl6.out]; omega, rfl, rfl, HW6, S7⟩
      case measure => simp [intOf]; omega
end Go.Proofs.Ytmikconjhmhekaa

/- Contracts: counted and listed models, and implied clauses, of a Cnf in the reference. -/
namespace Go.Proofs.Ytmikconjhmhekaa
open Go.RowKit

/-- Numbers that are told, and whether they are. -/
def IAns (w : World) (ok : Bool) (zs : List Int) (e : Ending) (w' : World) : Prop :=
  ∃ B cap, e = .returned (.tuple #[.slice B zs.length cap, .bool ok]) ∧ IntsAt w' B zs ∧ Below w.heap.size w w'
def allN (p : Nat → Bool) (k : Nat) : List Int := ((List.range k).filter p).map fun (m : Nat) => (m : Int)
theorem allN_no {p : Nat → Bool} {k : Nat} (h : p k = false) : allN p (k + 1) = allN p k := by simp [allN, List.range_succ, List.filter_append, h]
theorem allN_yes {p : Nat → Bool} {k : Nat} (h : p k = true) : allN p (k + 1) = allN p k ++ [(k : Int)] := by simp [allN, List.range_succ, List.filter_append, h]
theorem allN_len (p : Nat → Bool) (k : Nat) : (allN p k).length = cntP p k := by simp [allN, cntP]
theorem allN_ok (p : Nat → Bool) {k : Nat} (hk : k ≤ 4096) : ∀ x ∈ allN p k, I64 x := by
  intro x hx
  unfold allN at hx
  rw [List.mem_map] at hx
  obtain ⟨m, hm, rfl⟩ := hx
  have := List.mem_range.1 (List.mem_filter.1 hm).1
  unfold I64; omega

set_option maxHeartbeats 4000000 in
theorem specCountCnf_any (vars : Int) (v : Value) (xss : List (List Int)) (F : List Nat) (w : World) (hx : (Ty.slice Ty.int).row false w v xss F) :
    Calls Try.prog 12 #[.agg #[.int .i64 vars, v]] w fun e w' => e = .returned (.tuple #[.int .i64 (if goodB vars xss then (cntP (modT xss) (2 ^ vars.toNat) : Int) else 0), .bool (goodB vars xss)]) ∧ Below w.heap.size w w' := by
  obtain ⟨A, cap, rfl, hI⟩ := cls_row hx
  have S0 := (Sp.start w).alloc_box #[.int .i64 vars, .slice A xss.length cap] 26
  have hgood := Lib.hid (l2Good_any vars _ xss F _ (Ty.row_below hx S0.below (Ty.row_lt hx)))
  have c0 := S0.cell (i := 0) rfl (o := 0) rfl
  have c1 := S0.cell (i := 0) rfl (o := 1) rfl
  replace S0 := Lib.hid S0
  clear hx
  cases h1 : goodB vars xss
  · rw [h1] at hgood
    go_enter Try.func12, Try.ntmps12
    go_wp2_with fail
    refine hgood.out.mono ?_
    rintro e w1 ⟨rfl, hb1⟩
    have hB := Lib.hid (S0.out.grow hb1).below
    clear S0 hgood hb1 c0 c1
    go_wp2_with fail
    go_ret2
    exact ⟨rfl, hB.out⟩
  · have hg := good_cnf h1
    rw [h1] at hgood
    obtain ⟨n, rfl⟩ := Int.eq_ofNat_of_zero_le hg.1.1
    have hmo := Lib.hid (fun W h => l5Models_any n (by omega) xss hg.2.2.2 (by omega) A cap W (hI.grow h))
    rw [if_pos rfl, show (n : Int).toNat = n by omega]
    clear hg hI h1
    generalize cntP (modT xss) (2 ^ n) = z at *
    go_enter Try.func12, Try.ntmps12
    go_wp2_with fail
    refine hgood.out.mono ?_
    rintro e w1 ⟨rfl, hb1⟩
    have S1 := Lib.hid (S0.out.grow hb1)
    clear S0 hgood hb1 c0 c1
    have c0 := S1.out.cell (i := 0) rfl (o := 0) rfl
    have c1 := S1.out.cell (i := 0) rfl (o := 1) rfl
    go_wp2_with fail
    refine (hmo.out _ S1.out.below).mono ?_
    rintro e w2 ⟨rfl, hb2⟩
    have hB := Lib.hid (S1.out.grow hb2).below
    clear S1 hmo hb2 c0 c1
    go_wp2_with fail
    go_ret2
    exact ⟨rfl, hB.out⟩

set_option maxRecDepth 100000 in
set_option maxHeartbeats 8000000 in
theorem specAllModels_any (vars : Int) (v : Value) (xss : List (List Int)) (F : List Nat) (w : World) (hx : (Ty.slice Ty.int).row false w v xss F) :
    Calls Try.prog 14 #[.agg #[.int .i64 vars, v]] w (IAns w (goodB vars xss && decide (cntP (modT xss) (2 ^ vars.toNat) ≤ 300)) (if goodB vars xss && decide (cntP (modT xss) (2 ^ vars.toNat) ≤ 300) then allN (modT xss) (2 ^ vars.toNat) else [])) := by
  obtain ⟨A, cap, rfl, hI⟩ := cls_row hx
  have S0 := ((Sp.start w).alloc_box #[.int .i64 vars, .slice A xss.length cap] 26).own_made 3 1
  simp only [World.size_alloc] at S0
  have hgood := Lib.hid (l2Good_any vars _ xss F _ (Ty.row_below hx S0.below (Ty.row_lt hx)))
  have c0 := S0.cell (i := 1) rfl (o := 0) rfl
  have c1 := S0.cell (i := 1) rfl (o := 1) rfl
  have S0' : Hid (Sp w _ [Own 3 1 (.slice (some ⟨w.heap.size + 1, 0, none⟩) ([] : List Int).length 0) ([] : List Int).length (([] : List Int).map (.int .i64)), Box w.heap.size 26 #[.int .i64 vars, .slice A xss.length cap]]) := S0
  clear hx S0
  obtain ⟨i0, hi0, hy0, hy1, hy2⟩ := info_parts infoInt
  cases h1 : goodB vars xss
  · rw [h1] at hgood
    go_enter Try.func14, Try.ntmps14
    go_wp2_with fail
    refine hgood.out.mono ?_
    rintro e w1 ⟨rfl, hb1⟩
    have hB := Lib.hid (S0'.out.grow hb1).below
    clear S0' hgood hb1 c0 c1
    go_wp2_with fail
    go_ret2
    exact ⟨_, _, rfl, ⟨fun j hj => by simp at hj, fun c hc => by simp at hc⟩, hB.out⟩
  · have hg := good_cnf h1
    rw [h1] at hgood
    obtain ⟨n, rfl⟩ := Int.eq_ofNat_of_zero_le hg.1.1
    have hn12 : n ≤ 12 := by omega
    obtain ⟨hsh, hp⟩ := pow12 hn12
    have hmo := Lib.hid (fun W h => l5Models_any n hn12 xss hg.2.2.2 (by omega) A cap W (hI.grow h))
    have hcall := Lib.hid (fun b (hb : b < 4096) W (h : Below w.heap.size w W) => l5All_any xss hg.2.2.2 (by omega) A cap b (Nat.lt_trans hb (by decide)) W (hI.grow h))
    have hcl := Lib.hid (cntP_le (modT xss))
    have hlen := Lib.hid (allN_len (modT xss))
    have hok := Lib.hid (fun k h => allN_ok (modT xss) (k := k) h)
    rw [show (n : Int).toNat = n by omega, Bool.true_and]
    clear hg hI h1
    generalize 2 ^ n = N at *
    obtain ⟨z, hz⟩ : ∃ z, cntP (modT xss) N = z := ⟨_, rfl⟩
    rw [hz] at hmo ⊢
    have hzN : z ≤ 4096 := by have := hcl.out N; omega
    replace hz := Lib.hid hz
    by_cases hlt3 : (300 : Int) < (z : Int)
    · have d1 : decide ((300 : Int) < (z : Int)) = true := decide_eq_true hlt3
      have d2 : decide (z ≤ 300) = false := decide_eq_false (by omega)
      rw [d2]
      clear d2
      go_enter Try.func14, Try.ntmps14
      go_wp2_with fail
      refine hgood.out.mono ?_
      rintro e w1 ⟨rfl, hb1⟩
      have S1 := Lib.hid (S0'.out.grow hb1)
      clear S0' hgood hb1 c0 c1
      have c0 := S1.out.cell (i := 1) rfl (o := 0) rfl
      have c1 := S1.out.cell (i := 1) rfl (o := 1) rfl
      go_wp2_with fail
      refine (hmo.out _ S1.out.below).mono ?_
      rintro e w2 ⟨rfl, hb2⟩
      have hB := Lib.hid (S1.out.grow hb2).below
      clear S1 hmo hb2 c0 c1
      go_wp2_with fail
      go_ret2
      exact ⟨_, _, rfl, ⟨fun j hj => by simp at hj, fun c hc => by simp at hc⟩, hB.out⟩
    · have d1 : decide ((300 : Int) < (z : Int)) = false := decide_eq_false hlt3
      have d2 : decide (z ≤ 300) = true := decide_eq_true (by omega)
      rw [d2, if_pos rfl]
      clear d2
      go_enter Try.func14, Try.ntmps14
      go_wp2_with fail
      refine hgood.out.mono ?_
      rintro e w1 ⟨rfl, hb1⟩
      have S1 := Lib.hid (S0'.out.grow hb1)
      clear S0' hgood hb1 c0 c1
      have c0 := S1.out.cell (i := 1) rfl (o := 0) rfl
      have c1 := S1.out.cell (i := 1) rfl (o := 1) rfl
      go_wp2_with fail
      refine (hmo.out _ S1.out.below).mono ?_
      rintro e w2 ⟨rfl, hb2⟩
      have S2 := Lib.hid (S1.out.grow hb2)
      clear S1 hmo hb2 c0 c1
      go_wp2_with fail
      go_loopw [4, 5] (fun vo vi wr => ∃ (k : Nat) (B : Option Addr) (cc : Nat), k ≤ N ∧ vi = .int .i64 k ∧ vo = .slice B (allN (modT xss) k).length cc ∧ Hid (Sp w wr [Own 3 1 (.slice B (allN (modT xss) k).length cc) (allN (modT xss) k).length ((allN (modT xss) k).map (.int .i64)), Box w.heap.size 26 #[.int .i64 n, .slice A xss.length cap]])) (fun _ vi _ => N - (intOf vi).toNat)
      case atStart => exact ⟨0, _, _, Nat.zero_le _, rfl, rfl, S2⟩
      case round =>
        obtain ⟨k, B, cc, hk, rfl, rfl, HS⟩ := hrel
        clear S2
        have c0 := HS.out.cell (i := 1) rfl (o := 0) rfl
        have c1 := HS.out.cell (i := 1) rfl (o := 1) rfl
        have hal := hlen.out k
        have hck := hcl.out k
        by_cases hlt : k < N
        · have d0 : decide ((k : Int) < (N : Int)) = true := decide_eq_true (Int.ofNat_lt.2 hlt)
          have hk4 : k < 4096 := Nat.lt_of_lt_of_le hlt hp
          have hall := Lib.hid (hcall.out k hk4 wr HS.out.below)
          have hno := Lib.hid (fun h => allN_no (p := modT xss) (k := k) h)
          have hyes := Lib.hid (fun h => allN_yes (p := modT xss) (k := k) h)
          have hl4 : (allN (modT xss) k).length ≤ 4096 := by omega
          replace hal := Lib.hid hal
          generalize modT xss k = q at *
          go_wp2_with fail
          refine hall.out.mono ?_
          rintro e w3 ⟨rfl, hb3⟩
          have S3 := Lib.hid (HS.out.grow hb3)
          clear HS hall hb3 c0 c1 hal hck
          cases q
          · have hn2 := Lib.hid (hno.out rfl)
            go_wp2_with fail
            go_roundw
            case rel => exact ⟨k + 1, B, cc, by omega, by go_num, by rw [hn2.out], by rw [hn2.out]; exact S3⟩
            case measure => simp [intOf]; omega
          · have hn2 := Lib.hid (hyes.out rfl)
            generalize allN (modT xss) k = ts at *
            have S4 := S3.out.alloc_box #[.int .i64 (k : Int)] 3
            have kB := S4.cell (i := 0) rfl (o := 0) rfl
            replace S4 := Lib.hid S4
            clear S3
            go_wp2_with (at_builtin; refine wpList_append_src rfl _ _ rfl Try.underlying30 hi0 hy0 hy1 hy2 rfl (by decide) _ _ _ rfl (S4.out.own (i := 1) rfl) _ 1 1 [.int .i64 (k : Int)] rfl (Src.one kB) (by simp [Value.oneCell']) ?c3 ?c4 ?_)
            case c3 => unfold maxLen; omega
            case c4 => omega
            intro vY wY hownY hgY hatY
            have S5 := (S4.out.own_push (i := 1) rfl (bb _) hownY hgY (by simpa using hatY)).tail
            obtain ⟨aY, cY, rfl⟩ := own_slice hownY
            have hl2 : ts.length + 1 = (ts ++ [(k : Int)]).length := by simp
            have S6 : Hid (Sp w wY [Own 3 1 (.slice aY (ts ++ [(k : Int)]).length cY) (ts ++ [(k : Int)]).length ((ts ++ [(k : Int)]).map (.int .i64)), Box w.heap.size 26 #[.int .i64 n, .slice A xss.length cap]]) := by
              unfold Hid; rw [← hl2, List.map_append]; exact S5
            clear S4 S5 kB hownY hgY hatY
            rw [hl2]
            replace hl2 := Lib.hid hl2
            rw [← hn2.out] at S6 ⊢
            clear hn2 hl2 hl4
            go_wp2_with fail
            go_roundw
            case rel => exact ⟨k + 1, aY, cY, by omega, by go_num, rfl, S6⟩
            case measure => simp [intOf]; omega
        · obtain rfl : k = N := by omega
          have d0 : decide ((k : Int) < (k : Int)) = false := by simp
          obtain ⟨G, hr, -, -⟩ := own_row (HS.out.own (i := 0) rfl) (hok.out k (by omega))
          obtain ⟨B', c', e', hT⟩ := ints_row (Ty.row_down hr)
          cases e'
          have hB := Lib.hid HS.out.below
          replace hT := Lib.hid hT
          clear HS hr hal hck
          go_wp2_with fail
          go_ret2
          exact ⟨_, _, rfl, hT.out, hB.out⟩
end Go.Proofs.Ytmikconjhmhekaa

/- Contract: an implied clause of a Cnf in the reference. -/
namespace Go.Proofs.Ytmikconjhmhekaa
open Go.RowKit

/-- A clause is true for all models. -/
def impB (n : Nat) (xss : List (List Int)) (d : List Int) : Bool := !((List.range (2 ^ n)).any fun b => !clT d b && modT xss b)
theorem ints_lone {w : World} {b : Nat} {z : Int} (h : w.cell? ⟨b, 0, none⟩ = some (.int .i64 z)) (hz : I64 z) : IntsAt w (some ⟨b, 0, none⟩) [z] :=
  ⟨fun j hj => by
    obtain rfl : j = 0 := by simpa using hj
    exact ⟨b, 0, rfl, h⟩, fun c hc => by
    obtain rfl : c = z := by simpa using hc
    exact hz⟩

set_option maxRecDepth 100000 in
set_option maxHeartbeats 4000000 in
theorem specImplies_any (vars : Int) (v : Value) (xss : List (List Int)) (d : List Int) (D : Option Addr) (dc : Nat) (F G : List Nat) (w : World) (hx : (Ty.slice Ty.int).row false w v xss F) (hy : Ty.int.row false w (.slice D d.length dc) d G) :
    Calls Try.prog 23 #[.agg #[.int .i64 vars, v], .slice D d.length dc] w fun e w' => e = .returned (.tuple #[.bool (goodB vars xss && clauseB vars d && impB vars.toNat xss d), .bool (goodB vars xss && clauseB vars d)]) ∧ Below w.heap.size w w' := by
  obtain ⟨A, cap, rfl, hI⟩ := cls_row hx
  have S0 := (Sp.start w).alloc_box #[.int .i64 vars, .slice A xss.length cap] 26
  have hgood := Lib.hid (l2Good_any vars _ xss F _ (Ty.row_below hx S0.below (Ty.row_lt hx)))
  have hcla := Lib.hid (fun W (h : Below w.heap.size w W) => l2Clause_any vars _ d G W (Ty.row_below hy h (Ty.row_lt hy)))
  have c0 := S0.cell (i := 0) rfl (o := 0) rfl
  have c1 := S0.cell (i := 0) rfl (o := 1) rfl
  replace S0 := Lib.hid S0
  have hyH := Lib.hid hy
  clear hx hy
  cases h1 : goodB vars xss
  · rw [h1] at hgood
    go_enter Try.func23, Try.ntmps23
    go_wp2_with fail
    refine hgood.out.mono ?_
    rintro e w1 ⟨rfl, hb1⟩
    have hB := Lib.hid (S0.out.grow hb1).below
    clear S0 hgood hb1 c0 c1
    go_wp2_with fail
    go_ret2
    exact ⟨rfl, hB.out⟩
  · rw [h1] at hgood
    cases h2 : clauseB vars d
    · rw [h2] at hcla
      go_enter Try.func23, Try.ntmps23
      go_wp2_with fail
      refine hgood.out.mono ?_
      rintro e w1 ⟨rfl, hb1⟩
      have S1 := Lib.hid (S0.out.grow hb1)
      clear S0 hgood hb1 c0 c1
      have c0 := S1.out.cell (i := 0) rfl (o := 0) rfl
      go_wp2_with fail
      refine (hcla.out _ S1.out.below).mono ?_
      rintro e w2 ⟨rfl, hb2⟩
      have hB := Lib.hid (S1.out.grow hb2).below
      clear S1 hcla hb2 c0
      go_wp2_with fail
      go_ret2
      exact ⟨rfl, hB.out⟩
    · have hg := good_cnf h1
      rw [h2] at hcla
      obtain ⟨n, rfl⟩ := Int.eq_ofNat_of_zero_le hg.1.1
      obtain ⟨D', dc', e', hT⟩ := ints_row hyH.out
      cases e'
      have hcd := clause_s h2
      have him := Lib.hid (fun W (h : Below w.heap.size w W) => l5Implies_any n (by omega) xss hg.2.2.2 (by omega) A cap d hcd D dc W (hI.grow h) (hT.grow h))
      rw [show (n : Int).toNat = n by omega]
      have hz : impB n xss d = !((List.range (2 ^ n)).any fun b => !clT d b && modT xss b) := rfl
      rw [← hz] at him
      clear hg hI hT hcd h1 h2 hz
      generalize impB n xss d = q at *
      go_enter Try.func23, Try.ntmps23
      go_wp2_with fail
      refine hgood.out.mono ?_
      rintro e w1 ⟨rfl, hb1⟩
      have S1 := Lib.hid (S0.out.grow hb1)
      clear S0 hgood hb1 c0 c1
      have c0 := S1.out.cell (i := 0) rfl (o := 0) rfl
      go_wp2_with fail
      refine (hcla.out _ S1.out.below).mono ?_
      rintro e w2 ⟨rfl, hb2⟩
      have S2 := Lib.hid (S1.out.grow hb2)
      clear S1 hcla hb2 c0
      have c0 := S2.out.cell (i := 0) rfl (o := 0) rfl
      have c1 := S2.out.cell (i := 0) rfl (o := 1) rfl
      go_wp2_with fail
      refine (him.out _ S2.out.below).mono ?_
      rintro e w3 ⟨rfl, hb3⟩
      have hB := Lib.hid (S2.out.grow hb3).below
      clear S2 him hb3 c0 c1
      go_wp2_with fail
      go_ret2
      exact ⟨rfl, hB.out⟩
end Go.Proofs.Ytmikconjhmhekaa

/- Contract: the backbone of a Cnf in the reference. -/
namespace Go.Proofs.Ytmikconjhmhekaa
open Go.RowKit

/-- The literals of the first variables that are true for all models. -/
def boneTo (n : Nat) (xss : List (List Int)) : Nat → List Int
  | 0 => []
  | k + 1 => boneTo n xss k ++ ((if impB n xss [(k : Int) + 1] then [(k : Int) + 1] else []) ++ (if impB n xss [-((k : Int) + 1)] then [-((k : Int) + 1)] else []))
theorem bone_len (n : Nat) (xss : List (List Int)) : ∀ k, (boneTo n xss k).length ≤ 2 * k
  | 0 => by simp [boneTo]
  | k + 1 => by
    have := bone_len n xss k
    unfold boneTo
    rw [List.length_append, List.length_append]
    split <;> split <;> simp <;> omega
theorem bone_ok (n : Nat) (xss : List (List Int)) : ∀ k, k ≤ 1000 → ∀ x ∈ boneTo n xss k, I64 x
  | 0, _ => by simp [boneTo]
  | k + 1, h => by
    have := bone_ok n xss k (by omega)
    unfold boneTo
    intro x hx
    rcases List.mem_append.1 hx with hx | hx
    · exact this x hx
    · rcases List.mem_append.1 hx with hx | hx
      · split at hx
        · obtain rfl : x = (k : Int) + 1 := by simpa using hx
          unfold I64; omega
        · simp at hx
      · split at hx
        · obtain rfl : x = -((k : Int) + 1) := by simpa using hx
          unfold I64; omega
        · simp at hx
theorem cls_lone {z : Int} (h0 : z ≠ 0) (h1 : -1000 ≤ z) (h2 : z ≤ 1000) : ClS [z] := ⟨fun l hl => by
  obtain rfl : l = z := by simpa using hl
  exact ⟨h0, h1, h2⟩, by simp⟩

set_option maxRecDepth 100000 in
set_option maxHeartbeats 8000000 in
theorem specBackbone_any (vars : Int) (v : Value) (xss : List (List Int)) (F : List Nat) (w : World) (hx : (Ty.slice Ty.int).row false w v xss F) :
    Calls Try.prog 19 #[.agg #[.int .i64 vars, v]] w (IAns w (goodB vars xss && (List.range (2 ^ vars.toNat)).any (modT xss)) (if goodB vars xss && (List.range (2 ^ vars.toNat)).any (modT xss) then boneTo vars.toNat xss vars.toNat else [])) := by
  obtain ⟨A, cap, rfl, hI⟩ := cls_row hx
  have S0 := ((Sp.start w).alloc_box #[.int .i64 vars, .slice A xss.length cap] 26).own_made 3 1
  simp only [World.size_alloc] at S0
  have hgood := Lib.hid (l2Good_any vars _ xss F _ (Ty.row_below hx S0.below (Ty.row_lt hx)))
  have c0 := S0.cell (i := 1) rfl (o := 0) rfl
  have c1 := S0.cell (i := 1) rfl (o := 1) rfl
  have S0' : Hid (Sp w _ [Own 3 1 (.slice (some ⟨w.heap.size + 1, 0, none⟩) ([] : List Int).length 0) ([] : List Int).length (([] : List Int).map (.int .i64)), Box w.heap.size 26 #[.int .i64 vars, .slice A xss.length cap]]) := S0
  clear hx S0
  obtain ⟨i0, hi0, hy0, hy1, hy2⟩ := info_parts infoInt
  cases h1 : goodB vars xss
  · rw [h1] at hgood
    go_enter Try.func19, Try.ntmps19
    go_wp2_with fail
    refine hgood.out.mono ?_
    rintro e w1 ⟨rfl, hb1⟩
    have hB := Lib.hid (S0'.out.grow hb1).below
    clear S0' hgood hb1 c0 c1
    go_wp2_with fail
    go_ret2
    exact ⟨_, _, rfl, ⟨fun j hj => by simp at hj, fun c hc => by simp at hc⟩, hB.out⟩
  · have hg := good_cnf h1
    rw [h1] at hgood
    obtain ⟨n, rfl⟩ := Int.eq_ofNat_of_zero_le hg.1.1
    have hn12 : n ≤ 12 := by omega
    have hsat := Lib.hid (fun W h => l5Sat_any n hn12 xss hg.2.2.2 (by omega) A cap W (hI.grow h))
    have him := Lib.hid (fun (z : Int) (h0 : z ≠ 0) (h1 : -1000 ≤ z) (h2 : z ≤ 1000) b W (h : Below w.heap.size w W) (hz : IntsAt W (some ⟨b, 0, none⟩) [z]) => l5Implies_any n hn12 xss hg.2.2.2 (by omega) A cap [z] (cls_lone h0 h1 h2) (some ⟨b, 0, none⟩) 1 W (hI.grow h) hz)
    have hdef : ∀ d, (!((List.range (2 ^ n)).any fun b => !clT d b && modT xss b)) = impB n xss d := fun d => rfl
    simp only [hdef] at him
    have hbl := Lib.hid (bone_len n xss)
    have hbo := Lib.hid (bone_ok n xss)
    have hbs : Hid (∀ k, boneTo n xss (k + 1) = boneTo n xss k ++ ((if impB n xss [(k : Int) + 1] then [(k : Int) + 1] else []) ++ (if impB n xss [-((k : Int) + 1)] then [-((k : Int) + 1)] else []))) := fun k => rfl
    rw [show (n : Int).toNat = n by omega, Bool.true_and]
    clear hg hI h1 hdef
    generalize (List.range (2 ^ n)).any (modT xss) = q at *
    cases q
    · go_enter Try.func19, Try.ntmps19
      go_wp2_with fail
      refine hgood.out.mono ?_
      rintro e w1 ⟨rfl, hb1⟩
      have S1 := Lib.hid (S0'.out.grow hb1)
      clear S0' hgood hb1 c0 c1
      have c0 := S1.out.cell (i := 1) rfl (o := 0) rfl
      have c1 := S1.out.cell (i := 1) rfl (o := 1) rfl
      go_wp2_with fail
      refine (hsat.out _ S1.out.below).mono ?_
      rintro e w2 ⟨rfl, hb2⟩
      have hB := Lib.hid (S1.out.grow hb2).below
      clear S1 hsat hb2 c0 c1
      go_wp2_with fail
      go_ret2
      exact ⟨_, _, rfl, ⟨fun j hj => by simp at hj, fun c hc => by simp at hc⟩, hB.out⟩
    · rw [if_pos rfl]
      go_enter Try.func19, Try.ntmps19
      go_wp2_with fail
      refine hgood.out.mono ?_
      rintro e w1 ⟨rfl, hb1⟩
      have S1 := Lib.hid (S0'.out.grow hb1)
      clear S0' hgood hb1 c0 c1
      have c0 := S1.out.cell (i := 1) rfl (o := 0) rfl
      have c1 := S1.out.cell (i := 1) rfl (o := 1) rfl
      go_wp2_with fail
      refine (hsat.out _ S1.out.below).mono ?_
      rintro e w2 ⟨rfl, hb2⟩
      have S2 := Lib.hid (S1.out.grow hb2)
      clear S1 hsat hb2 c0 c1
      go_wp2_with fail
      go_loopw [4, 5] (fun vo vi wr => ∃ (k : Nat) (z : Int) (ts : List Int) (B : Option Addr) (cc : Nat), k ≤ n ∧ 1 ≤ z ∧ z ≤ 13 ∧ Hid ((k : Int) + 1 = z) ∧ vi = .int .i64 z ∧ vo = .slice B ts.length cc ∧ Hid (ts = boneTo n xss k) ∧ Hid (Sp w wr [Own 3 1 (.slice B ts.length cc) ts.length (ts.map (.int .i64)), Box w.heap.size 26 #[.int .i64 n, .slice A xss.length cap]])) (fun _ vi _ => 20 - (intOf vi).toNat)
      case atStart => exact ⟨0, 1, [], _, _, Nat.zero_le _, by decide, by decide, rfl, rfl, rfl, rfl, S2⟩
      case round =>
        obtain ⟨k, z, ts, B, cc, hk, hz1, hz13, hkz, rfl, rfl, hts, HS⟩ := hrel
        clear S2
        have c0 := HS.out.cell (i := 1) rfl (o := 0) rfl
        have hlt24 : ts.length ≤ 26 := by have := hbl.out k; rw [hts.out]; omega
        by_cases hlt : z ≤ (n : Int)
        · have d0 : decide (z ≤ (n : Int)) = true := decide_eq_true hlt
          have hw1 : IntKind.i64.wrap (-z) = -z := IntWalk.i64_in _ (by omega)
          have hw2 : IntKind.i64.wrap (z + 1) = z + 1 := IntWalk.i64_in _ (by omega)
          have hbk := hbs.out k
          rw [hkz.out, ← hts.out] at hbk
          have i1 := Lib.hid (him.out z (by omega) (by omega) (by omega))
          have i2 := Lib.hid (him.out (-z) (by omega) (by omega) (by omega))
          generalize impB n xss [z] = q1 at *
          generalize impB n xss [-z] = q2 at *
          replace hbk := Lib.hid hbk
          clear c0 hts
          have S3 := HS.out.alloc_box #[.int .i64 (z)] 3
          have him3 := Lib.hid (i1.out _ _ (S3.below) (ints_lone (S3.cell (i := 0) rfl (o := 0) rfl) (by unfold I64; omega)))
          have c0 := HS.out.cell (i := 1) rfl (o := 0) rfl
          have c1 := HS.out.cell (i := 1) rfl (o := 1) rfl
          replace S3 := Lib.hid S3
          go_wp2_with fail
          refine him3.out.mono ?_
          rintro e v3 ⟨rfl, hb3⟩
          have T3 := Lib.hid ((S3.out.grow hb3).tail)
          clear HS S3 him3 hb3 c0 c1
          go_upto_if 25 with fail
          go_cut [4] (fun vo wx => ∃ (us : List Int) (B : Option Addr) (cc : Nat), vo = .slice B us.length cc ∧ us.length ≤ 27 ∧ Hid (us = ts ++ (if q1 then [z] else [])) ∧ Hid (Sp w wx [Own 3 1 (.slice B us.length cc) us.length (us.map (.int .i64)), Box w.heap.size 26 #[.int .i64 n, .slice A xss.length cap]]))
          case first =>
            cases q1
            · go_wp2_with fail
              go_meet
              exact ⟨ts, B, cc, rfl, by omega, by simp [Hid], T3⟩
            · as_aux_lemma =>
                have S8 := T3.out.alloc_box #[.int .i64 (z)] 3
                have kB := S8.cell (i := 0) rfl (o := 0) rfl
                replace S8 := Lib.hid S8
                clear T3
                go_wp2_with (at_builtin; refine wpList_append_src rfl _ _ rfl Try.underlying30 hi0 hy0 hy1 hy2 rfl (by decide) _ _ _ rfl (S8.out.own (i := 1) rfl) _ 1 1 [.int .i64 (z)] rfl (Src.one kB) (by simp [Value.oneCell']) ?c3 ?c4 ?_)
                case c3 => unfold maxLen; omega
                case c4 => omega
                intro vY wY hownY hgY hatY
                have S9 := (S8.out.own_push (i := 1) rfl (bb _) hownY hgY (by simpa using hatY)).tail
                obtain ⟨aY, cY, rfl⟩ := own_slice hownY
                have hl2 : ts.length + 1 = (ts ++ [z]).length := by simp
                have SA : Hid (Sp w wY [Own 3 1 (.slice aY (ts ++ [z]).length cY) (ts ++ [z]).length ((ts ++ [z]).map (.int .i64)), Box w.heap.size 26 #[.int .i64 n, .slice A xss.length cap]]) := by
                  unfold Hid; rw [← hl2, List.map_append]; exact S9
                clear S8 S9 kB hownY hgY hatY
                rw [hl2]
                replace hl2 := Lib.hid hl2
                have hl27 : (ts ++ [z]).length ≤ 27 := by rw [← hl2.out]; omega
                go_wp2_with fail
                go_meet
                exact ⟨ts ++ [z], aY, cY, rfl, hl27, rfl, SA⟩
          case rest =>
          clear T3
          obtain ⟨us, B, cc, rfl, hul, hus, HS⟩ := hcut
          have S4 := HS.out.alloc_box #[.int .i64 (-z)] 3
          have him4 := Lib.hid (i2.out _ _ (S4.below) (ints_lone (S4.cell (i := 0) rfl (o := 0) rfl) (by unfold I64; omega)))
          have c0 := HS.out.cell (i := 1) rfl (o := 0) rfl
          have c1 := HS.out.cell (i := 1) rfl (o := 1) rfl
          replace S4 := Lib.hid S4
          go_wp2_with fail
          refine him4.out.mono ?_
          rintro e v4 ⟨rfl, hb4⟩
          have T4 := Lib.hid ((S4.out.grow hb4).tail)
          clear HS S4 him4 hb4 c0 c1
          have hkz2 : Hid (((k + 1 : Nat) : Int) + 1 = z + 1) := by unfold Hid; have := hkz.out; omega
          have hk1 : k + 1 ≤ n := by have := hkz.out; omega
          go_upto_if 34 with fail
          cases q2
          · have hfin : Hid (us = boneTo n xss (k + 1)) := by unfold Hid; rw [hbk.out, hus.out]; simp
            clear hbk hus hkz
            go_wp2_with fail
            go_roundw
            case rel => exact ⟨k + 1, z + 1, us, B, cc, hk1, by omega, by omega, hkz2, rfl, rfl, hfin, T4⟩
            case measure => simp [intOf]; omega
          · have hfin : Hid (us ++ [-z] = boneTo n xss (k + 1)) := by unfold Hid; rw [hbk.out, hus.out]; simp
            clear hbk hus hkz
            as_aux_lemma =>
              have S8 := T4.out.alloc_box #[.int .i64 (-z)] 3
              have kB := S8.cell (i := 0) rfl (o := 0) rfl
              replace S8 := Lib.hid S8
              clear T4
              go_wp2_with (at_builtin; refine wpList_append_src rfl _ _ rfl Try.underlying30 hi0 hy0 hy1 hy2 rfl (by decide) _ _ _ rfl (S8.out.own (i := 1) rfl) _ 1 1 [.int .i64 (-z)] rfl (Src.one kB) (by simp [Value.oneCell']) ?c3 ?c4 ?_)
              case c3 => unfold maxLen; omega
              case c4 => omega
              intro vY wY hownY hgY hatY
              have S9 := (S8.out.own_push (i := 1) rfl (bb _) hownY hgY (by simpa using hatY)).tail
              obtain ⟨aY, cY, rfl⟩ := own_slice hownY
              have hl2 : us.length + 1 = (us ++ [-z]).length := by simp
              have SA : Hid (Sp w wY [Own 3 1 (.slice aY (us ++ [-z]).length cY) (us ++ [-z]).length ((us ++ [-z]).map (.int .i64)), Box w.heap.size 26 #[.int .i64 n, .slice A xss.length cap]]) := by
                unfold Hid; rw [← hl2, List.map_append]; exact S9
              clear S8 S9 kB hownY hgY hatY
              rw [hl2]
              replace hl2 := Lib.hid hl2
              go_wp2_with fail
              go_roundw
              case rel => exact ⟨k + 1, z + 1, us ++ [-z], aY, cY, hk1, by omega, by omega, hkz2, rfl, rfl, hfin, SA⟩
              case measure => simp [intOf]; omega
        · have d0 : decide (z ≤ (n : Int)) = false := decide_eq_false hlt
          obtain rfl : k = n := by have := hkz.out; omega
          have hok : ∀ x ∈ ts, I64 x := by rw [hts.out]; exact hbo.out k (by omega)
          obtain ⟨G, hr, -, -⟩ := own_row (HS.out.own (i := 0) rfl) hok
          obtain ⟨B', c', e', hT⟩ := ints_row (Ty.row_down hr)
          cases e'
          have hB := Lib.hid HS.out.below
          replace hT := Lib.hid hT
          clear HS hr hok
          go_wp2_with fail
          go_ret2
          rw [← hts.out]
          exact ⟨_, _, rfl, hT.out, hB.out⟩
end Go.Proofs.Ytmikconjhmhekaa

/- Plain facts on models, backbones and implied clauses. -/
namespace Go.Proofs.Ytmikconjhmhekaa
open Go.RowKit

theorem bone_next (n : Nat) (xss : List (List Int)) (k : Nat) : boneTo n xss (k + 1) = boneTo n xss k ++ ((if impB n xss [(k : Int) + 1] then [(k : Int) + 1] else []) ++ (if impB n xss [-((k : Int) + 1)] then [-((k : Int) + 1)] else [])) := rfl
theorem bone_mem (n : Nat) (xss : List (List Int)) : ∀ (k : Nat) (x : Int), x ∈ boneTo n xss k ↔ (x ≠ 0 ∧ x.natAbs ≤ k ∧ impB n xss [x] = true)
  | 0, x => by
    simp only [boneTo, List.not_mem_nil, false_iff]
    omega
  | k + 1, x => by
    rw [bone_next, List.mem_append, List.mem_append, bone_mem n xss k x]
    have a1 : x ∈ (if impB n xss [(k : Int) + 1] then [(k : Int) + 1] else []) ↔ x = (k : Int) + 1 ∧ impB n xss [x] = true := by
      split
      · rename_i h
        rw [List.mem_singleton]
        exact ⟨fun e => ⟨e, by rw [e]; exact h⟩, fun e => e.1⟩
      · rename_i h
        simp only [List.not_mem_nil, false_iff]
        rintro ⟨rfl, h2⟩
        exact h h2
    have a2 : x ∈ (if impB n xss [-((k : Int) + 1)] then [-((k : Int) + 1)] else []) ↔ x = -((k : Int) + 1) ∧ impB n xss [x] = true := by
      split
      · rename_i h
        rw [List.mem_singleton]
        exact ⟨fun e => ⟨e, by rw [e]; exact h⟩, fun e => e.1⟩
      · rename_i h
        simp only [List.not_mem_nil, false_iff]
        rintro ⟨rfl, h2⟩
        exact h h2
    rw [a1, a2]
    constructor
    · rintro (⟨h1, h2, h3⟩ | ⟨h1, h3⟩ | ⟨h1, h3⟩)
      · exact ⟨h1, by omega, h3⟩
      · exact ⟨by omega, by omega, h3⟩
      · exact ⟨by omega, by omega, h3⟩
    · rintro ⟨h1, h2, h3⟩
      by_cases h : x.natAbs ≤ k
      · exact .inl ⟨h1, h, h3⟩
      · by_cases hx : x = (k : Int) + 1
        · exact .inr (.inl ⟨hx, h3⟩)
        · exact .inr (.inr ⟨by omega, h3⟩)
theorem bone_contains {n : Nat} {xss : List (List Int)} {x : Int} (h0 : x ≠ 0) (h1 : x.natAbs ≤ n) : (boneTo n xss n).contains x = impB n xss [x] := by
  rw [Bool.eq_iff_iff, List.contains_iff_mem, bone_mem]
  exact ⟨fun h => h.2.2, fun h => ⟨h0, h1, h⟩⟩
theorem cl_one (x : Int) (b : Nat) : clT [x] b = litT b x := by simp [clT]
theorem lit_pos (k b : Nat) : litT b ((k : Int) + 1) = b.testBit k := by
  unfold litT
  rw [show ((k : Int) + 1).natAbs - 1 = k by omega, decide_eq_true (by omega : (0 : Int) < (k : Int) + 1)]
  simp
theorem lit_neg (k b : Nat) : litT b (-((k : Int) + 1)) = !b.testBit k := by
  unfold litT
  rw [show (-((k : Int) + 1)).natAbs - 1 = k by omega, decide_eq_false (by omega : ¬ (0 : Int) < -((k : Int) + 1))]
  cases b.testBit k <;> rfl
/-- The models in their order. -/
def mods (p : Nat → Bool) (N : Nat) : List Nat := (List.range N).filter p
theorem allN_eq (p : Nat → Bool) (N : Nat) : allN p N = (mods p N).map fun (m : Nat) => (m : Int) := rfl
theorem imp_mods (n : Nat) (xss : List (List Int)) (d : List Int) : impB n xss d = (mods (modT xss) (2 ^ n)).all (clT d) := by
  rw [Bool.eq_iff_iff]
  unfold impB mods
  rw [Bool.not_eq_true', List.any_eq_false, List.all_eq_true]
  constructor
  · intro h b hb
    have h1 := List.mem_filter.1 hb
    have h2 := h b h1.1
    rw [h1.2, Bool.and_true] at h2
    simpa using h2
  · intro h b hb
    cases hm : modT xss b
    · simp
    · rw [h b (List.mem_filter.2 ⟨hb, hm⟩)]
      simp
theorem bone_yes {n : Nat} {xss : List (List Int)} {k : Nat} (hk : k < n) : (boneTo n xss n).contains ((k : Int) + 1) = (mods (modT xss) (2 ^ n)).all fun b => b.testBit k := by
  rw [bone_contains (by omega) (by omega), imp_mods]
  congr 1
  funext b
  rw [cl_one, lit_pos]
theorem bone_no {n : Nat} {xss : List (List Int)} {k : Nat} (hk : k < n) : (boneTo n xss n).contains (-((k : Int) + 1)) = (mods (modT xss) (2 ^ n)).all fun b => !b.testBit k := by
  rw [bone_contains (by omega) (by omega), imp_mods]
  congr 1
  funext b
  rw [cl_one, lit_neg]
theorem mod_snoc (xss : List (List Int)) (d : List Int) (b : Nat) : modT (xss ++ [d]) b = (modT xss b && clT d b) := by simp [modT, List.all_append]
theorem equiv_imp (n : Nat) (xss : List (List Int)) (d : List Int) : ((List.range (2 ^ n)).all fun b => modT xss b == modT (xss ++ [d]) b) = impB n xss d := by
  rw [Bool.eq_iff_iff]
  unfold impB
  rw [Bool.not_eq_true', List.any_eq_false, List.all_eq_true]
  constructor
  · intro h b hb
    have h2 := h b hb
    rw [mod_snoc] at h2
    cases hm : modT xss b <;> cases hc : clT d b <;> simp_all
  · intro h b hb
    have h2 := h b hb
    rw [mod_snoc]
    cases hm : modT xss b <;> cases hc : clT d b <;> simp_all
theorem good_snoc {vars : Int} {xss : List (List Int)} {d : List Int} (h : goodB vars xss = true) (hc : clauseB vars d = true) (hl : xss.length < 60) : goodB vars (xss ++ [d]) = true := by
  unfold goodB at *
  simp only [Bool.and_eq_true, decide_eq_true_eq] at *
  refine ⟨⟨h.1.1, by simp; omega⟩, ?_⟩
  rw [List.all_append, h.2]
  simp [hc]
theorem all_first {p : Nat → Bool} {N : Nat} (h : (List.range N).any p = true) : ∃ m, (allN p N)[0]? = some (m : Int) ∧ idxP p (List.range N) = (m : Int) := by
  have hf : idxP p (List.range N) = ((List.range N).findIdx p : Nat) := by unfold idxP; rw [if_pos h]
  have hlt : (List.range N).findIdx p < (List.range N).length := List.findIdx_lt_length_of_exists (by simpa using List.any_eq_true.1 h)
  refine ⟨(List.range N).findIdx p, ?_, hf⟩
  have hfd : (List.range N).find? p = some ((List.range N).findIdx p) := by
    rw [List.find?_eq_some_iff_getElem]
    refine ⟨?_, _, hlt, by simp, fun j hj => ?_⟩
    · have := List.findIdx_getElem (w := hlt)
      simpa using this
    · have := List.not_of_lt_findIdx (xs := List.range N) (p := p) (i := j) hj
      simpa using this
  unfold allN
  rw [List.getElem?_map, ← List.head?_eq_getElem?, List.head?_filter, hfd]
  rfl
theorem cnt_pos {p : Nat → Bool} {N : Nat} : decide (0 < cntP p N) = (List.range N).any p := by
  rw [Bool.eq_iff_iff, decide_eq_true_eq, List.any_eq_true]
  unfold cntP
  rw [List.length_pos_iff_exists_mem]
  exact ⟨fun ⟨m, hm⟩ => ⟨m, (List.mem_filter.1 hm).1, (List.mem_filter.1 hm).2⟩, fun ⟨m, h1, h2⟩ => ⟨m, List.mem_filter.2 ⟨h1, h2⟩⟩⟩
/-- What the law's loop over the models has told of a bit. -/
theorem all_take_next {p : Nat → Bool} {ms : List Nat} {i : Nat} (hi : i < ms.length) : (ms.take (i + 1)).all p = ((ms.take i).all p && p ms[i]) := by
  rw [List.take_succ_eq_append_getElem hi, List.all_append]
  simp
end Go.Proofs.Ytmikconjhmhekaa

/- Contracts: implied clauses, in the program. -/
namespace Go.Proofs.Ytmikconjhmhekaa
open Go.RowKit

/-- Values of clauses that can be read. -/
def ClsV (w : World) (us : List Value) (xss : List (List Int)) : Prop := us.length = xss.length ∧ ∀ j (hj : j < xss.length), ∃ B c, us[j]? = some (.slice B xss[j].length c) ∧ IntsAt w B xss[j]
theorem cls_src {w : World} {A : Option Addr} {xss : List (List Int)} (h : ClsAt w A xss) : ∃ us, ClsV w us xss ∧ Src w A xss.length 1 us ∧ ∀ u ∈ us, u.oneCell' = true := by
  rcases Nat.eq_zero_or_pos xss.length with h0 | h0
  · obtain rfl : xss = [] := List.length_eq_zero_iff.1 h0
    exact ⟨[], ⟨rfl, fun j hj => absurd hj (by simp)⟩, .inl ⟨rfl, rfl⟩, by simp⟩
  · obtain ⟨b, off, -, -, rfl, -, -⟩ := h.at_ 0 h0
    have hat : ∀ j (hj : j < xss.length), ∃ B c, w.cell? ⟨b, off + j, none⟩ = some (.slice B xss[j].length c) ∧ IntsAt w B xss[j] := fun j hj => by
      obtain ⟨b', off', B, c, e, h1, h2⟩ := h.at_ j hj
      cases e
      exact ⟨B, c, h1, h2⟩
    refine ⟨(List.range xss.length).map fun j => (w.cell? ⟨b, off + j, none⟩).getD (.bool false), ⟨by simp, fun j hj => ?_⟩, .inr ⟨_, rfl, by simp, fun j u hu => ?_⟩, fun u hu => ?_⟩
    · obtain ⟨B, c, h1, h2⟩ := hat j hj
      exact ⟨B, c, by simp [List.getElem?_map, List.getElem?_range hj, h1], h2⟩
    · have hj : j < xss.length := by
        have := (List.getElem?_eq_some_iff.1 hu).1
        simpa using this
      obtain ⟨B, c, h1, h2⟩ := hat j hj
      rw [List.getElem?_map, List.getElem?_range hj] at hu
      simp only [Option.map_some, h1, Option.getD_some, Option.some.injEq] at hu
      rw [add_none, h1, hu]
    · obtain ⟨j, hj, rfl⟩ := List.mem_map.1 hu
      obtain ⟨B, c, h1, h2⟩ := hat j (List.mem_range.1 hj)
      rw [h1]; rfl
theorem ClsV.keep {w w' : World} {us : List Value} {xss : List (List Int)} (h : ClsV w us xss) (hb : Below w.heap.size w w') : ClsV w' us xss :=
  ⟨h.1, fun j hj => by
    obtain ⟨B, c, h1, h2⟩ := h.2 j hj
    exact ⟨B, c, h1, h2.grow hb⟩⟩
theorem ClsV.append {w : World} {us vs : List Value} {xss yss : List (List Int)} (h : ClsV w us xss) (k : ClsV w vs yss) : ClsV w (us ++ vs) (xss ++ yss) :=
  ⟨by simp [h.1, k.1], fun j hj => by
    by_cases hlt : j < xss.length
    · obtain ⟨B, c, h1, h2⟩ := h.2 j hlt
      rw [List.getElem_append_left hlt]
      exact ⟨B, c, by rw [List.getElem?_append_left (by rw [h.1]; exact hlt)]; exact h1, h2⟩
    · have hj2 : j - xss.length < yss.length := by rw [List.length_append] at hj; omega
      obtain ⟨B, c, h1, h2⟩ := k.2 _ hj2
      rw [List.getElem_append_right (by omega)]
      exact ⟨B, c, by rw [List.getElem?_append_right (by rw [h.1]; omega), h.1]; exact h1, h2⟩⟩
theorem ClsV.own {w : World} {B : Nat} {e : TypeId} {A : Option Addr} {c : Nat} {us : List Value} {xss : List (List Int)} (h : ClsV w us xss) (ho : w.ownsRow B e 1 (.slice A xss.length c) xss.length us) : ClsAt w A xss := ⟨fun j hj => by
  obtain ⟨g, cap, cur, e1, -, hh, -, -, -, ht⟩ := own_block ho (by omega)
  simp only [Value.slice.injEq] at e1
  obtain ⟨rfl, -, rfl⟩ := e1
  obtain ⟨B', c', h1, h2⟩ := h.2 j hj
  exact ⟨g, 0, B', c', rfl, by rw [Nat.zero_add, (own_at hh ht (o := j) (by omega)).1]; exact h1, h2⟩⟩

set_option maxRecDepth 100000 in
set_option maxHeartbeats 4000000 in
theorem cloneRows_any (A : Option Addr) (n cap : Nat) (us : List Value) (w : World) (hs : Src w A n 1 us) (h1 : ∀ u ∈ us, u.oneCell' = true) (hl : n ≤ 1000000) :
    Calls Try.prog 195 #[.slice A n cap] w fun e w' => ∃ B c, e = .returned (.slice B n c) ∧ Sp w w' [Own 30 1 (.slice B n c) n us] := by
  obtain ⟨i0, hi, hz0, hz1, hz2⟩ := info_parts infoRow
  have hnil := fun w : World => Lib.run_eql_slice_nil (P := Try.prog) w 24 30 A n cap 0 0 Try.underlying24
  cases A with
  | none =>
    have h0 : n = 0 ∧ us = [] := by
      rcases hs with h | ⟨ad, h, -⟩
      · exact h
      · cases h
    obtain ⟨rfl, rfl⟩ := h0
    go_enter Try.func195, Try.ntmps195
    go_wp2_with fail
    go_ret
    exact ⟨none, 0, rfl, (Sp.start w).own_nil _ _⟩
  | some ad =>
    have S0 := Lib.hid ((Sp.start w).own_made 30 1)
    have hs2 := Lib.hid (hs.grow (bal (bb w) (.cells #[] 30)))
    have h1H := Lib.hid h1
    clear hs h1
    simp only [Option.isNone_some] at hnil
    go_enter Try.func195, Try.ntmps195
    go_wp2_with (at_builtin; refine wpList_append_src rfl _ _ rfl Try.underlying24 hi hz0 hz1 hz2 rfl (by decide) _ _ _ rfl (S0.out.own (i := 0) rfl) _ n cap us rfl hs2.out h1H.out ?c3 ?c4 ?_)
    case c3 => unfold maxLen; omega
    case c4 => omega
    intro v' w' hown hg hat
    have S1 := S0.out.own_push (i := 0) rfl (bb _) hown hg (by simpa using hat)
    obtain ⟨B, c, rfl⟩ := own_slice hown
    replace S1 := Lib.hid S1
    clear hown hg hat S0 hs2 hnil
    go_wp2_with fail
    go_ret
    exact ⟨B, c, rfl, S1.out⟩

abbrev oneP (r : Nat × Int) : Asn := Box r.1 3 #[.int .i64 r.2]
abbrev oneV (r : Nat × Int) : Value := .slice (some ⟨r.1, 0, none⟩) 1 1
theorem ones_cls {w0 w : World} {q : Asn} {rs : List (Nat × Int)} (h : Sp w0 w (q :: rs.map oneP)) (hI : ∀ r ∈ rs, I64 r.2) : ClsV w (rs.reverse.map oneV) (rs.reverse.map fun r => [r.2]) :=
  ⟨by simp, fun j hj => by
    have hj2 : j < rs.length := by simpa using hj
    have hk : (rs.reverse)[j]? = some (rs.reverse[j]'(by simpa using hj2)) := List.getElem?_eq_getElem _
    obtain ⟨r, hr⟩ : ∃ r, rs.reverse[j]'(by simpa using hj2) = r := ⟨_, rfl⟩
    rw [hr] at hk
    have hk2 : rs[rs.length - 1 - j]? = some r := by rw [List.getElem?_reverse hj2] at hk; exact hk
    have hb := h.box (i := rs.length - 1 - j + 1) (b := r.1) (t := 3) (cs := #[.int .i64 r.2]) (by rw [List.getElem?_cons_succ, List.getElem?_map, hk2]; rfl)
    have hmem : r ∈ rs := List.mem_of_getElem? hk2
    refine ⟨some ⟨r.1, 0, none⟩, 1, by rw [List.getElem?_map, hk]; simp, ?_⟩
    simp only [List.getElem_map, hr]
    exact ints_lone (by simp [World.cell?, hb.2.2]) (hI r hmem)⟩
theorem any_same {α : Type} {p q : α → Bool} {l : List α} (h : ∀ x ∈ l, p x = q x) : l.any p = l.any q := by
  rw [Bool.eq_iff_iff, List.any_eq_true, List.any_eq_true]
  exact ⟨fun ⟨x, h1, h2⟩ => ⟨x, h1, by rw [← h x h1]; exact h2⟩, fun ⟨x, h1, h2⟩ => ⟨x, h1, by rw [h x h1]; exact h2⟩⟩
theorem mod_negs {xss : List (List Int)} {c : List Int} {b : Nat} (hc : ∀ l ∈ c, l ≠ 0) : modT (xss ++ c.map fun l => [-l]) b = (!clT c b && modT xss b) := by
  have h2 : modT (c.map fun l => [-l]) b = !clT c b := by
    unfold modT clT
    rw [List.all_map, List.all_eq_not_any_not]
    congr 1
    refine any_same fun l hl => ?_
    · have h0 := hc l hl
      simp only [Function.comp, List.any_cons, List.any_nil, Bool.or_false]
      unfold litT
      rw [Int.natAbs_neg]
      by_cases hp : 0 < l
      · rw [decide_eq_true hp, decide_eq_false (by omega)]
        cases b.testBit (l.natAbs - 1) <;> rfl
      · rw [decide_eq_false hp, decide_eq_true (by omega)]
        cases b.testBit (l.natAbs - 1) <;> rfl
  have h3 : modT (xss ++ c.map fun l => [-l]) b = (modT xss b && modT (c.map fun l => [-l]) b) := by
    unfold modT
    rw [List.all_append]
  rw [h3, h2, Bool.and_comm]

set_option maxRecDepth 100000 in
set_option maxHeartbeats 8000000 in
theorem implies_any (n : Nat) (hn : n ≤ 12) (xss : List (List Int)) (hc : ∀ c ∈ xss, ClS c) (hl : xss.length ≤ 100000) (A : Option Addr) (cap : Nat) (d : List Int) (hd : ClS d) (D : Option Addr) (dc : Nat) (w : World) (hx : ClsAt w A xss) (hy : IntsAt w D d) :
    Calls Try.prog 105 #[.int .i64 n, .slice A xss.length cap, .slice D d.length dc] w fun e w' => e = .returned (.bool (impB n xss d)) ∧ Below w.heap.size w w' := by
  obtain ⟨i0, hi, hz0, hz1, hz2⟩ := info_parts infoRow
  obtain ⟨us, hV, hsrc, h1⟩ := cls_src hx
  have hcl := Lib.hid (cloneRows_any A xss.length cap us w hsrc h1 (by omega))
  have hD := Lib.hid hy
  have hV2 := Lib.hid hV
  have hdl := hd.2
  have hdd := Lib.hid hd.1
  have hcc := Lib.hid hc
  have hus := Lib.hid hV.1
  clear hx hy hV hsrc h1 hd hc
  go_enter Try.func105, Try.ntmps105
  go_wp2_with fail
  refine hcl.out.mono ?_
  rintro e w1 ⟨B, c, rfl, S0⟩
  replace S0 := Lib.hid S0
  clear hcl
  go_wp2_with fail
  go_loopw [7, 9, 14] (fun va _ vi wr => ∃ (k : Nat) (m : Nat) (E : Option Addr) (ec : Nat) (rs : List (Nat × Int)), k ≤ d.length ∧ vi = .int .i64 k ∧ m ≤ xss.length + 1000 ∧ va = .slice E m ec ∧ Hid (m = xss.length + k) ∧ Hid ((rs.reverse.map fun r => [r.2]) = (d.take k).map fun l => [-l]) ∧ Hid (∀ r ∈ rs, LitS r.2) ∧
    Hid (Sp w wr (Own 30 1 (.slice E m ec) m (us ++ rs.reverse.map oneV) :: rs.map oneP))) (fun _ _ vi _ => d.length - (intOf vi).toNat)
  case atStart => exact ⟨0, xss.length, B, c, [], Nat.zero_le _, rfl, by omega, rfl, rfl, by simp [Hid], by simp [Hid], by simpa [Hid] using S0.out⟩
  case round =>
    obtain ⟨k, m, E, ec, rs, hk, rfl, hm, rfl, hmk, hrs, hrl, HS⟩ := hrel
    clear S0
    by_cases hlt : k < d.length
    · obtain ⟨ab, off, rfl, m0⟩ := (hD.out.grow HS.out.below).at_ k hlt
      have hlk := hdd.out _ (List.getElem_mem hlt)
      have htk : (d.take (k + 1)).map (fun l => [-l]) = (d.take k).map (fun l => [-l]) ++ [[-d[k]]] := by rw [List.take_succ_eq_append_getElem hlt, List.map_append]; rfl
      generalize d[k] = l at *
      have hw1 : IntKind.i64.wrap (-l) = -l := IntWalk.i64_in _ (by unfold LitS at hlk; omega)
      have hl2 : Hid (LitS (-l)) := by unfold Hid LitS at *; omega
      have S2 := (HS.out.alloc_box #[.int .i64 (-l)] 3)
      have S3 := S2.alloc_box #[.slice (some ⟨wr.heap.size, 0, none⟩) 1 1] 30
      simp only [World.size_alloc] at S3
      have kB := S3.cell (i := 0) rfl (o := 0) rfl
      replace S3 := Lib.hid S3
      replace htk := Lib.hid htk
      clear S2 HS hlk
      go_wp2_with (at_builtin; refine wpList_append_src rfl _ _ rfl Try.underlying24 hi hz0 hz1 hz2 rfl (by decide) _ _ _ rfl (S3.out.own (i := 2) rfl) _ 1 1 [.slice (some ⟨wr.heap.size, 0, none⟩) 1 1] rfl (Src.one kB) (by simp [Value.oneCell']) ?c3 ?c4 ?_)
      case c3 => unfold maxLen; omega
      case c4 => omega
      intro vY wY hownY hgY hatY
      have S4 := (S3.out.own_push (i := 2) rfl (bb _) hownY hgY (by simpa using hatY)).tail.swap
      obtain ⟨aY, cY, rfl⟩ := own_slice hownY
      have S5 : Hid (Sp w wY (Own 30 1 (.slice aY (m + 1) cY) (m + 1) (us ++ (((wr.heap.size, -l) :: rs).reverse.map oneV)) :: (((wr.heap.size, -l) :: rs).map oneP))) := by
        unfold Hid
        rw [List.reverse_cons, List.map_append, List.map_reverse]
        exact S4
      have hrs2 : Hid ((((wr.heap.size, -l) :: rs).reverse.map fun r => [r.2]) = (d.take (k + 1)).map fun l => [-l]) := by
        unfold Hid
        rw [htk.out, List.reverse_cons, List.map_append, hrs.out]; rfl
      have hrl2 : Hid (∀ r ∈ ((wr.heap.size, -l) :: rs), LitS r.2) := by
        intro r hr
        rcases List.mem_cons.1 hr with rfl | hr
        · exact hl2.out
        · exact hrl.out r hr
      have hmk2 : Hid (m + 1 = xss.length + (k + 1)) := by unfold Hid; have := hmk.out; omega
      have hm2 : m + 1 ≤ xss.length + 1000 := by have := hmk.out; omega
      clear S3 S4 kB hownY hgY hatY hrs hrl hmk htk
      go_wp2_with fail
      go_roundw
      case rel => exact ⟨k + 1, m + 1, aY, cY, _, by omega, by go_num, hm2, rfl, hmk2, hrs2, hrl2, S5⟩
      case measure => simp [intOf]; omega
    · obtain rfl : k = d.length := by omega
      have hA : Hid (ClsAt wr E (xss ++ d.map fun l => [-l])) := by
        have h2 := ones_cls HS.out (fun r hr => (hrl.out r hr).i64)
        rw [hrs.out, List.take_length] at h2
        have h3 := ClsV.append (hV2.out.keep HS.out.below) h2
        have h4 := HS.out.own (i := 0) rfl
        have h5 : m = (xss ++ d.map fun l => [-l]).length := by rw [hmk.out]; simp
        rw [h5] at h4
        exact h3.own h4
      have hsat := satisfiable_any n hn (xss ++ d.map fun l => [-l]) (by
        intro c hc
        rcases List.mem_append.1 hc with hc | hc
        · exact hcc.out c hc
        · obtain ⟨l, hl, rfl⟩ := List.mem_map.1 hc
          refine ⟨fun x hx => ?_, by simp⟩
          obtain rfl : x = -l := by simpa using hx
          have := hdd.out l hl
          unfold LitS at *; omega) (by simp; omega) E ec wr hA.out
      rw [show (xss ++ d.map fun l => [-l]).length = m by rw [hmk.out]; simp] at hsat
      have himp : impB n xss d = !((List.range (2 ^ n)).any (modT (xss ++ d.map fun l => [-l]))) := by
        unfold impB
        congr 1
        exact any_same fun b _ => (mod_negs fun l hl => (hdd.out l hl).1).symm
      replace himp := Lib.hid himp
      replace hsat := Lib.hid hsat
      have hB := Lib.hid HS.out.below
      generalize (List.range (2 ^ n)).any (modT (xss ++ d.map fun l => [-l])) = q at *
      clear hA HS hrs hrl hmk
      go_wp2_with fail
      refine hsat.out.mono ?_
      rintro e w2 ⟨rfl, hb2⟩
      have hB2 := Lib.hid (btr hB.out hb2)
      clear hsat hb2 hB
      go_wp2_with fail
      go_ret
      exact ⟨ret_bool himp.out.symm, hB2.out⟩

set_option maxRecDepth 100000 in
set_option maxHeartbeats 4000000 in
theorem implImplies_any (vars : Int) (v : Value) (xss : List (List Int)) (d : List Int) (D : Option Addr) (dc : Nat) (F G : List Nat) (w : World) (hx : (Ty.slice Ty.int).row false w v xss F) (hy : Ty.int.row false w (.slice D d.length dc) d G) :
    Calls Try.prog 22 #[.agg #[.int .i64 vars, v], .slice D d.length dc] w fun e w' => e = .returned (.tuple #[.bool (goodB vars xss && clauseB vars d && impB vars.toNat xss d), .bool (goodB vars xss && clauseB vars d)]) ∧ Below w.heap.size w w' := by
  obtain ⟨A, cap, rfl, hI⟩ := cls_row hx
  have S0 := (Sp.start w).alloc_box #[.int .i64 vars, .slice A xss.length cap] 26
  have hgood := Lib.hid (implIsCnf_any vars _ xss F _ (Ty.row_below hx S0.below (Ty.row_lt hx)))
  have hcla := Lib.hid (fun W (h : Below w.heap.size w W) => implIsClause_any vars _ d G W (Ty.row_below hy h (Ty.row_lt hy)))
  have c0 := S0.cell (i := 0) rfl (o := 0) rfl
  have c1 := S0.cell (i := 0) rfl (o := 1) rfl
  replace S0 := Lib.hid S0
  have hyH := Lib.hid hy
  clear hx hy
  cases h1 : goodB vars xss
  · rw [h1] at hgood
    go_enter Try.func22, Try.ntmps22
    go_wp2_with fail
    refine hgood.out.mono ?_
    rintro e w1 ⟨rfl, hb1⟩
    have hB := Lib.hid (S0.out.grow hb1).below
    clear S0 hgood hb1 c0 c1
    go_wp2_with fail
    go_ret2
    exact ⟨rfl, hB.out⟩
  · rw [h1] at hgood
    cases h2 : clauseB vars d
    · rw [h2] at hcla
      go_enter Try.func22, Try.ntmps22
      go_wp2_with fail
      refine hgood.out.mono ?_
      rintro e w1 ⟨rfl, hb1⟩
      have S1 := Lib.hid (S0.out.grow hb1)
      clear S0 hgood hb1 c0 c1
      have c0 := S1.out.cell (i := 0) rfl (o := 0) rfl
      go_wp2_with fail
      refine (hcla.out _ S1.out.below).mono ?_
      rintro e w2 ⟨rfl, hb2⟩
      have hB := Lib.hid (S1.out.grow hb2).below
      clear S1 hcla hb2 c0
      go_wp2_with fail
      go_ret2
      exact ⟨rfl, hB.out⟩
    · have hg := good_cnf h1
      rw [h2] at hcla
      obtain ⟨n, rfl⟩ := Int.eq_ofNat_of_zero_le hg.1.1
      obtain ⟨D', dc', e', hT⟩ := ints_row hyH.out
      cases e'
      have hcd := clause_s h2
      have him := Lib.hid (fun W (h : Below w.heap.size w W) => implies_any n (by omega) xss hg.2.2.2 (by omega) A cap d hcd D dc W (hI.grow h) (hT.grow h))
      rw [show (n : Int).toNat = n by omega]
      clear hg hI hT hcd h1 h2
      generalize impB n xss d = q at *
      go_enter Try.func22, Try.ntmps22
      go_wp2_with fail
      refine hgood.out.mono ?_
      rintro e w1 ⟨rfl, hb1⟩
      have S1 := Lib.hid (S0.out.grow hb1)
      clear S0 hgood hb1 c0 c1
      have c0 := S1.out.cell (i := 0) rfl (o := 0) rfl
      go_wp2_with fail
      refine (hcla.out _ S1.out.below).mono ?_
      rintro e w2 ⟨rfl, hb2⟩
      have S2 := Lib.hid (S1.out.grow hb2)
      clear S1 hcla hb2 c0
      have c0 := S2.out.cell (i := 0) rfl (o := 0) rfl
      have c1 := S2.out.cell (i := 0) rfl (o := 1) rfl
      go_wp2_with fail
      refine (him.out _ S2.out.below).mono ?_
      rintro e w3 ⟨rfl, hb3⟩
      have hB := Lib.hid (S2.out.grow hb3).below
      clear S2 him hb3 c0 c1
      go_wp2_with fail
      go_ret2
      exact ⟨rfl, hB.out⟩
end Go.Proofs.Ytmikconjhmhekaa

/- A part of the memory brought to the front. No program in sight. -/
namespace Go.Proofs.Ytmikconjhmhekaa
open Go.RowKit

theorem sep_bring {w : World} : ∀ {ps : List Asn} {F : List Nat} {i : Nat} {q : Asn}, sep ps w F → ps[i]? = some q → ∃ F', sep (q :: ps.eraseIdx i) w F' ∧ ∀ b ∈ F', b ∈ F
  | [], _, _, _, _, h => by simp at h
  | p :: ps, F, 0, q, h, hi => by
    simp at hi; subst hi
    exact ⟨F, h, fun _ h => h⟩
  | p :: ps, _, i + 1, q, h, hi => by
    obtain ⟨F1, F2, rfl, hd, h1, h2⟩ := h
    obtain ⟨F', ⟨F3, F4, rfl, hd', h3, h4⟩, hs⟩ := sep_bring (i := i) h2 (by simpa using hi)
    refine ⟨F3 ++ (F1 ++ F4), ⟨F3, F1 ++ F4, rfl, fun b hb hb2 => ?_, h3, F1, F4, rfl, fun b hb hb2 => hd b hb (hs b (List.mem_append.2 (.inr hb2))), h1, h4⟩, fun b hb => ?_⟩
    · rcases List.mem_append.1 hb2 with h | h
      · exact hd b h (hs b (List.mem_append.2 (.inl hb)))
      · exact hd' b hb h
    · simp only [List.mem_append] at hb ⊢
      rcases hb with h | h | h
      · exact .inr (hs b (List.mem_append.2 (.inl h)))
      · exact .inl h
      · exact .inr (hs b (List.mem_append.2 (.inr h)))
section
variable {w0 w w' : World} {ps : List Asn} {i j : Nat} {q : Asn}
/-- A part is brought to the front. -/
theorem Sp.bring (h : Sp w0 w ps) (hi : ps[i]? = some q) : Sp w0 w (q :: ps.eraseIdx i) := by
  obtain ⟨h1, F, h2, h3⟩ := h
  obtain ⟨F', h4, h5⟩ := sep_bring h2 hi
  exact ⟨h1, F', h4, fun b hb => h3 b (h5 b hb)⟩
end
/-- Parts are picked, by their places in what is left. -/
def pickQ : List Nat → List Asn → Option (List Asn)
  | [], _ => some []
  | i :: is, ps => match ps[i]? with
    | none => none
    | some q => match pickQ is (ps.eraseIdx i) with
      | none => none
      | some qs => some (q :: qs)
theorem sep_pick {w : World} : ∀ {is : List Nat} {ps qs : List Asn} {F : List Nat}, sep ps w F → pickQ is ps = some qs → ∃ F', sep qs w F' ∧ ∀ b ∈ F', b ∈ F
  | [], _, _, _, _, hq => by
    simp only [pickQ, Option.some.injEq] at hq
    subst hq
    exact ⟨[], rfl, by simp⟩
  | i :: is, ps, qs, F, h, hq => by
    unfold pickQ at hq
    cases hi : ps[i]? with
    | none => rw [hi] at hq; cases hq
    | some q =>
      rw [hi] at hq
      simp only at hq
      cases hr : pickQ is (ps.eraseIdx i) with
      | none => rw [hr] at hq; cases hq
      | some rs =>
        rw [hr] at hq
        simp only [Option.some.injEq] at hq
        subst hq
        obtain ⟨F1, ⟨F2, F3, rfl, hd, h1, h2⟩, hs⟩ := sep_bring h hi
        obtain ⟨F4, h3, h4⟩ := sep_pick h2 hr
        exact ⟨F2 ++ F4, ⟨F2, F4, rfl, fun b hb hb4 => hd b hb (h4 b hb4), h1, h3⟩, fun b hb => by
          rcases List.mem_append.1 hb with hb | hb
          · exact hs b (List.mem_append.2 (.inl hb))
          · exact hs b (List.mem_append.2 (.inr (h4 b hb)))⟩
theorem Sp.pick {w0 w : World} {ps qs : List Asn} (is : List Nat) (h : Sp w0 w ps) (hq : pickQ is ps = some qs) : Sp w0 w qs := by
  obtain ⟨h1, F, h2, h3⟩ := h
  obtain ⟨F', h4, h5⟩ := sep_pick h2 hq
  exact ⟨h1, F', h4, fun b hb => h3 b (h5 b hb)⟩
end Go.Proofs.Ytmikconjhmhekaa

/- Contracts: chosen clauses of a Cnf, and whether they are a core. -/
namespace Go.Proofs.Ytmikconjhmhekaa
open Go.RowKit

/-- The clauses with some indices. -/
def pickC (xss : List (List Int)) (is : List Nat) : List (List Int) := is.map fun i => xss.getD i []
def ofN (is : List Nat) : List Int := is.map fun (i : Nat) => (i : Int)
/-- The clauses with some indices have no model. -/
def coreB (n : Nat) (xss : List (List Int)) (is : List Nat) : Bool := !(List.range (2 ^ n)).any (modT (pickC xss is))
theorem ofN_len (is : List Nat) : (ofN is).length = is.length := by simp [ofN]
theorem ofN_get {is : List Nat} {k : Nat} (hk : k < is.length) : (ofN is)[k]'(by rw [ofN_len]; exact hk) = (is[k] : Int) := by simp [ofN]
theorem pick_len (xss : List (List Int)) (is : List Nat) : (pickC xss is).length = is.length := by simp [pickC]
theorem pick_take {xss : List (List Int)} {is : List Nat} {k : Nat} (hk : k < is.length) : pickC xss (is.take (k + 1)) = pickC xss (is.take k) ++ [xss.getD is[k] []] := by
  unfold pickC
  rw [List.take_succ_eq_append_getElem hk, List.map_append]; rfl
theorem pick_cls {xss : List (List Int)} {is : List Nat} (hc : ∀ c ∈ xss, ClS c) (hi : ∀ i ∈ is, i < xss.length) : ∀ c ∈ pickC xss is, ClS c := by
  intro c hc'
  obtain ⟨i, hm, rfl⟩ := List.mem_map.1 hc'
  have hlt := hi i hm
  rw [List.getD_eq_getElem?_getD, List.getElem?_eq_getElem hlt]
  exact hc _ (List.getElem_mem hlt)
theorem ClsV.snoc {w : World} {us : List Value} {xss yss : List (List Int)} {i : Nat} {B : Option Addr} {c : Nat} (h : ClsV w us yss) (hi : i < xss.length) (hI : IntsAt w B xss[i]) : ClsV w (us ++ [.slice B xss[i].length c]) (yss ++ [xss.getD i []]) := by
  have hg : xss.getD i [] = xss[i] := by rw [List.getD_eq_getElem?_getD, List.getElem?_eq_getElem hi]; rfl
  rw [hg]
  exact h.append ⟨rfl, fun j hj => by
    obtain rfl : j = 0 := by simpa using hj
    exact ⟨B, c, rfl, hI⟩⟩
/-- What 'chosen' gives. -/
def PickD (w : World) (xss : List (List Int)) (is : List Nat) (e : Ending) (w' : World) : Prop :=
  ∃ E ec us, e = .returned (.slice E is.length ec) ∧ ClsV w us (pickC xss is) ∧ Sp w w' [Own 30 1 (.slice E is.length ec) is.length us]
theorem PickD.cls {w w' : World} {xss : List (List Int)} {is : List Nat} {E : Option Addr} {ec : Nat} {us : List Value} (h : ClsV w us (pickC xss is)) (S : Sp w w' [Own 30 1 (.slice E is.length ec) is.length us]) : ClsAt w' E (pickC xss is) := by
  have h2 := S.own (i := 0) rfl
  rw [← pick_len xss is] at h2
  exact (h.keep S.below).own h2

set_option maxRecDepth 100000 in
set_option maxHeartbeats 4000000 in
theorem chosen_any (vars : Int) (xss : List (List Int)) (is : List Nat) (hi : ∀ i ∈ is, i < xss.length) (hl : is.length ≤ 100000) (A D : Option Addr) (cap dc : Nat) (w : World) (hx : ClsAt w A xss) (hy : IntsAt w D (ofN is)) :
    Calls Try.prog 206 #[.agg #[.int .i64 vars, .slice A xss.length cap], .slice D is.length dc] w (PickD w xss is) := by
  obtain ⟨i0, hi0, hz0, hz1, hz2⟩ := info_parts infoRow
  have S0 := ((Sp.start w).alloc_box #[.int .i64 vars, .slice A xss.length cap] 26).own_nil 30 1
  replace S0 := Lib.hid S0
  have hX := Lib.hid hx
  have hD := Lib.hid hy
  have hii := Lib.hid hi
  have hol := Lib.hid (ofN_len is)
  clear hx hy hi
  go_enter Try.func206, Try.ntmps206
  go_wp2_with fail
  go_loopw [5, 7, 10] (fun vo _ vi wr => ∃ (k : Nat) (E : Option Addr) (ec : Nat) (us : List Value), k ≤ is.length ∧ vi = .int .i64 k ∧ vo = .slice E k ec ∧ Hid (ClsV w us (pickC xss (is.take k))) ∧ Hid (Sp w wr [Own 30 1 (.slice E k ec) k us, Box w.heap.size 26 #[.int .i64 vars, .slice A xss.length cap]])) (fun _ _ vi _ => is.length - (intOf vi).toNat)
  case atStart => exact ⟨0, none, 0, [], Nat.zero_le _, rfl, rfl, ⟨rfl, fun j hj => by simp [pickC] at hj⟩, S0⟩
  case round =>
    obtain ⟨k, E, ec, us, hk, rfl, rfl, HV, HS⟩ := hrel
    clear S0
    by_cases hlt : k < is.length
    · obtain ⟨db, doff, rfl, m0⟩ := (hD.out.grow HS.out.below).at_ k (by rw [hol.out]; exact hlt)
      rw [ofN_get hlt] at m0
      have hik := hii.out _ (List.getElem_mem hlt)
      obtain ⟨ab, aoff, Bk, ck, rfl, n0, hIk⟩ := hX.out.at_ _ hik
      have n1 := (HS.out.below.cell (World.block_lt_of_cell? _ _ n0)).trans n0
      have hV2 := HV.out.snoc (c := ck) hik hIk
      rw [← pick_take hlt] at hV2
      replace hV2 := Lib.hid hV2
      have c1 := HS.out.cell (i := 1) rfl (o := 1) rfl
      obtain ⟨lk, hv⟩ : ∃ l, xss[is[k]].length = l := ⟨_, rfl⟩
      rw [hv] at n1 hV2
      have S3 := HS.out.alloc_box #[.slice Bk lk ck] 30
      have kB := S3.cell (i := 0) rfl (o := 0) rfl
      replace S3 := Lib.hid S3
      generalize is[k] = ik at *
      clear hIk n0 HV HS
      replace hv := Lib.hid hv
      go_wp2_with (at_builtin; refine wpList_append_src rfl _ _ rfl Try.underlying24 hi0 hz0 hz1 hz2 rfl (by decide) _ _ _ rfl (S3.out.own (i := 1) rfl) _ 1 1 [.slice Bk lk ck] rfl (Src.one kB) (by simp [Value.oneCell']) ?c3 ?c4 ?_)
      case c3 => unfold maxLen; omega
      case c4 => omega
      intro vY wY hownY hgY hatY
      have S4 := Lib.hid ((S3.out.own_push (i := 1) rfl (bb _) hownY hgY (by simpa using hatY)).tail)
      obtain ⟨aY, cY, rfl⟩ := own_slice hownY
      clear S3 kB hownY hgY hatY
      go_wp2_with fail
      go_roundw
      case rel => exact ⟨k + 1, aY, cY, _, by omega, by go_num, rfl, hV2, S4⟩
      case measure => simp [intOf]; omega
    · obtain rfl : k = is.length := by omega
      have hV := HV.out
      rw [List.take_length] at hV
      replace hV := Lib.hid hV
      have S4 := Lib.hid (Sp.pick [0] HS.out rfl)
      clear HS HV
      go_wp2_with fail
      go_ret
      exact ⟨E, ec, us, rfl, hV.out, S4.out⟩

end Go.Proofs.Ytmikconjhmhekaa

/- Contracts: chosen clauses in the reference; cores on both sides. -/
namespace Go.Proofs.Ytmikconjhmhekaa
open Go.RowKit

set_option maxRecDepth 100000 in
set_option maxHeartbeats 4000000 in
theorem l5Some_any (vars : Int) (xss : List (List Int)) (is : List Nat) (hi : ∀ i ∈ is, i < xss.length) (hl : is.length ≤ 100000) (A D : Option Addr) (cap dc : Nat) (w : World) (hx : ClsAt w A xss) (hy : IntsAt w D (ofN is)) :
    Calls Try.prog 207 #[.agg #[.int .i64 vars, .slice A xss.length cap], .slice D is.length dc] w (PickD w xss is) := by
  obtain ⟨i0, hi0, hz0, hz1, hz2⟩ := info_parts infoRow
  have S0 := ((Sp.start w).alloc_box #[.int .i64 vars, .slice A xss.length cap] 26).own_made 30 1
  simp only [World.size_alloc] at S0
  replace S0 := Lib.hid S0
  have hX := Lib.hid hx
  have hD := Lib.hid hy
  have hii := Lib.hid hi
  have hol := Lib.hid (ofN_len is)
  clear hx hy hi
  go_enter Try.func207, Try.ntmps207
  go_wp2_with fail
  go_loopw [5, 6] (fun vo vi wr => ∃ (k : Nat) (E : Option Addr) (ec : Nat) (us : List Value), k ≤ is.length ∧ vi = .int .i64 k ∧ vo = .slice E k ec ∧ Hid (ClsV w us (pickC xss (is.take k))) ∧ Hid (Sp w wr [Own 30 1 (.slice E k ec) k us, Box w.heap.size 26 #[.int .i64 vars, .slice A xss.length cap]])) (fun _ vi _ => is.length - (intOf vi).toNat)
  case atStart => exact ⟨0, _, _, [], Nat.zero_le _, rfl, rfl, ⟨rfl, fun j hj => by simp [pickC] at hj⟩, S0⟩
  case round =>
    obtain ⟨k, E, ec, us, hk, rfl, rfl, HV, HS⟩ := hrel
    clear S0
    by_cases hlt : k < is.length
    · obtain ⟨db, doff, rfl, m0⟩ := (hD.out.grow HS.out.below).at_ k (by rw [hol.out]; exact hlt)
      rw [ofN_get hlt] at m0
      have hik := hii.out _ (List.getElem_mem hlt)
      obtain ⟨ab, aoff, Bk, ck, rfl, n0, hIk⟩ := hX.out.at_ _ hik
      have n1 := (HS.out.below.cell (World.block_lt_of_cell? _ _ n0)).trans n0
      have hV2 := HV.out.snoc (c := ck) hik hIk
      rw [← pick_take hlt] at hV2
      replace hV2 := Lib.hid hV2
      have c1 := HS.out.cell (i := 1) rfl (o := 1) rfl
      obtain ⟨lk, hv⟩ : ∃ l, xss[is[k]].length = l := ⟨_, rfl⟩
      rw [hv] at n1 hV2
      generalize is[k] = ik at *
      clear hIk n0 HV
      replace hv := Lib.hid hv
      go_wp2_with fail
      refine wp_region_tail_lit (S := (fun w' => w'.cell? ⟨w.heap.size, 1, none⟩ = some (.slice (some ⟨ab, aoff, none⟩) xss.length cap) ∧ w'.cell? ⟨db, doff + k, none⟩ = some (.int .i64 ik) ∧ w'.cell? ⟨ab, aoff + ik, none⟩ = some (.slice Bk lk ck))) 10 [false, false, false, false, false, false, false, false, false, false, false, false] (by kernel_rfl) (by kernel_rfl) (by kernel_rfl) ?_ ?_
      · exact ⟨c1, m0, n1⟩
      intro hSc
      (refine walkT_take (i := 0) (v := ?_) rfl (by kernel_rfl) (by decide) (by kernel_rfl) (by kernel_rfl) (fun _ _ _ h => h) (Or.inl ⟨by rfl, ?_⟩) (by assumption) ?_; rotate_left; (focus (intro w hSw; (try dsimp only at hSw); go_simp; (try with_reducible rfl); done)); (try simp only [put_rules]))
      (refine walkT_take (i := 1) (v := ?_) rfl (by kernel_rfl) (by decide) (by kernel_rfl) (by kernel_rfl) (fun _ _ _ h => h) (Or.inl ⟨by rfl, ?_⟩) (by assumption) ?_; rotate_left; (focus (intro w hSw; (try dsimp only at hSw); go_simp; (try with_reducible rfl); done)); (try simp only [put_rules]))
      (refine walkT_take (i := 2) (v := ?_) rfl (by kernel_rfl) (by decide) (by kernel_rfl) (by kernel_rfl) (fun _ _ _ h => h) (Or.inl ⟨by rfl, ?_⟩) (by assumption) ?_; rotate_left; (focus (intro w hSw; (try dsimp only at hSw); go_simp; (try with_reducible rfl); done)); (try simp only [put_rules]))
      (refine walkT_take (i := 3) (v := ?_) rfl (by kernel_rfl) (by decide) (by kernel_rfl) (by kernel_rfl) (fun _ _ _ h => h) (Or.inl ⟨by rfl, ?_⟩) (by assumption) ?_; rotate_left; (focus (intro w hSw; (try dsimp only at hSw); go_simp; (try with_reducible rfl); done)); (try simp only [put_rules]))
      (refine walkT_take (i := 4) (v := ?_) rfl (by kernel_rfl) (by decide) (by kernel_rfl) (by kernel_rfl) (fun _ _ _ h => h) (Or.inl ⟨by rfl, ?_⟩) (by assumption) ?_; rotate_left; (focus (intro w hSw; (try dsimp only at hSw); go_simp; (try with_reducible rfl); done)); (try simp only [put_rules]))
      (refine walkT_take (i := 5) (v := ?_) rfl (by kernel_rfl) (by decide) (by kernel_rfl) (by kernel_rfl) (fun _ _ _ h => h) (Or.inl ⟨by rfl, ?_⟩) (by assumption) ?_; rotate_left; (focus (intro w hSw; (try dsimp only at hSw); go_simp; (try with_reducible rfl); done)); (try simp only [put_rules]))
      (refine walkT_take (i := 6) (v := ?_) rfl (by kernel_rfl) (by decide) (by kernel_rfl) (by kernel_rfl) (fun _ _ _ h => h) (Or.inl ⟨by rfl, ?_⟩) (by assumption) ?_; rotate_left; (focus (intro w hSw; (try dsimp only at hSw); go_simp; (try with_reducible rfl); done)); (try simp only [put_rules]))
      (refine walkT_take (i := 7) (v := ?_) rfl (by kernel_rfl) (by decide) (by kernel_rfl) (by kernel_rfl) (fun _ _ _ h => h) (Or.inl ⟨by rfl, ?_⟩) (by assumption) ?_; rotate_left; (focus (intro w hSw; (try dsimp only at hSw); go_simp; (try with_reducible rfl); done)); (try simp only [put_rules]))
      (refine walkT_take (i := 8) (v := ?_) rfl (by kernel_rfl) (by decide) (by kernel_rfl) (by kernel_rfl) (fun _ _ _ h => h) (Or.inl ⟨by rfl, ?_⟩) (by assumption) ?_; rotate_left; (focus (intro w hSw; (try dsimp only at hSw); go_simp; (try with_reducible rfl); done)); (try simp only [put_rules]))
      (refine walkT_ready (rs := [9]) (by kernel_rfl) (by simp) (by decide) ?_; refine AllT.cons rfl (fun K hK => ?_) AllT.nil)
      go_simp
      have S2 := HS.out.drew
      have S3 := S2.alloc_box #[.slice Bk lk ck] 30
      have kB := S3.cell (i := 0) rfl (o := 0) rfl
      have m2 : (wr.drew.alloc (.cells #[.slice Bk lk ck] 30)).cell? ⟨db, doff + k, none⟩ = some (.int .i64 ik) := cell_alloc m0 _
      have n2 : (wr.drew.alloc (.cells #[.slice Bk lk ck] 30)).cell? ⟨ab, aoff + ik, none⟩ = some (.slice Bk lk ck) := cell_alloc n1 _
      refine hK.out _ _ ⟨S3.cell (i := 2) rfl (o := 1) rfl, m2, n2⟩ (fun hS3 => ?_)
      replace S3 := Lib.hid S3
      clear hK hSc S2 HS
      (try simp only [put_rules])
      (refine walkT_done (by kernel_rfl) ?_)
      simp only [List.drop_succ_cons, List.drop_zero]
      (refine wpList_append_src rfl _ _ rfl Try.underlying24 hi0 hz0 hz1 hz2 rfl (by decide) _ k _ rfl (S3.out.own (i := 1) rfl) _ 1 1 [.slice Bk lk ck] rfl (Src.one kB) (by simp [Value.oneCell']) (by unfold maxLen; omega) (by omega) ?_; intro vY wY hownY hgY hatY)
      have S4 := Lib.hid ((S3.out.own_push (i := 1) rfl (bb _) hownY hgY hatY).tail)
      obtain ⟨aY, cY, rfl⟩ := own_slice hownY
      clear S3 kB hownY hgY hatY m2 n2 hS3
      go_wp2_with fail
      go_roundw
      case rel => exact ⟨k + 1, aY, cY, _, by omega, by go_num, rfl, hV2, S4⟩
      case measure => simp [intOf]; omega
    · obtain rfl : k = is.length := by omega
      have hV := HV.out
      rw [List.take_length] at hV
      replace hV := Lib.hid hV
      have S4 := Lib.hid (Sp.pick [0] HS.out rfl)
      clear HS HV
      go_wp2_with fail
      go_ret
      exact ⟨E, ec, us, rfl, hV.out, S4.out⟩

set_option maxRecDepth 100000 in
set_option maxHeartbeats 4000000 in
theorem isCore_any (n : Nat) (hn : n ≤ 12) (xss : List (List Int)) (hc : ∀ c ∈ xss, ClS c) (is : List Nat) (hi : ∀ i ∈ is, i < xss.length) (hl : is.length ≤ 100000) (A D : Option Addr) (cap dc : Nat) (w : World) (hx : ClsAt w A xss) (hy : IntsAt w D (ofN is)) :
    Calls Try.prog 113 #[.agg #[.int .i64 n, .slice A xss.length cap], .slice D is.length dc] w fun e w' => e = .returned (.bool (coreB n xss is)) ∧ Below w.heap.size w w' := by
  have S0 := (Sp.start w).alloc_box #[.int .i64 n, .slice A xss.length cap] 26
  have c0 := S0.cell (i := 0) rfl (o := 0) rfl
  have c1 := S0.cell (i := 0) rfl (o := 1) rfl
  have S1 := S0.drew
  have hch := Lib.hid (chosen_any n xss is hi hl A D cap dc _ (hx.grow S1.below) (hy.grow S1.below))
  have hpl := Lib.hid (pick_len xss is)
  have hpc := Lib.hid (pick_cls hc hi)
  replace S1 := Lib.hid S1
  have hcb : Hid (coreB n xss is = !(List.range (2 ^ n)).any (modT (pickC xss is))) := rfl
  clear S0 hx hy hi hc
  go_enter Try.func113, Try.ntmps113
  go_wp2_with fail
  refine wp_region_held_lit (S := (fun w' => w'.cell? ⟨w.heap.size, 0, none⟩ = some (.int .i64 n) ∧ w'.cell? ⟨w.heap.size, 1, none⟩ = some (.slice A xss.length cap))) 8 [false, false, false, false, false, false, false, false] (by kernel_rfl) (by kernel_rfl) (by kernel_rfl) ?_ ?_
  · exact ⟨c0, c1⟩
  intro hSc
  (refine wpAnyH_take (i := 0) (v := ?_) rfl (by kernel_rfl) (by kernel_rfl) (by kernel_rfl) (fun _ _ _ h => h) (Or.inl ⟨by rfl, ?_⟩) (by assumption) ?_; rotate_left; (focus (intro w hSw; (try dsimp only at hSw); go_simp; (try with_reducible rfl); done)); (try simp only [put_rules]))
  (refine wpAnyH_take (i := 1) (v := ?_) rfl (by kernel_rfl) (by kernel_rfl) (by kernel_rfl) (fun _ _ _ h => h) (Or.inl ⟨by rfl, ?_⟩) (by assumption) ?_; rotate_left; (focus (intro w hSw; (try dsimp only at hSw); go_simp; (try with_reducible rfl); done)); (try simp only [put_rules]))
  (refine wpAnyH_take (i := 2) (v := ?_) rfl (by kernel_rfl) (by kernel_rfl) (by kernel_rfl) (fun _ _ _ h => h) (Or.inl ⟨by rfl, ?_⟩) (by assumption) ?_; rotate_left; (focus (intro w hSw; (try dsimp only at hSw); go_simp; (try with_reducible rfl); done)); (try simp only [put_rules]))
  (refine wpAnyH_take (i := 3) (v := ?_) rfl (by kernel_rfl) (by kernel_rfl) (by kernel_rfl) (fun _ _ _ h => h) (Or.inl ⟨by rfl, ?_⟩) (by assumption) ?_; rotate_left; (focus (intro w hSw; (try dsimp only at hSw); go_simp; (try with_reducible rfl); done)); (try simp only [put_rules]))
  (refine wpAnyH_ready (rs := [4]) (by kernel_rfl) (by simp) ?_; refine AllReadyH.cons rfl (fun K hK => ?_) AllReadyH.nil)
  go_simp
  go_at_call 206
  refine hch.out.mono ?_
  rintro e w2 ⟨E, ec, us, rfl, hV, T⟩
  have S2 := S1.out.seq T
  have hA := PickD.cls hV T
  have hsat := satisfiable_any n hn _ hpc.out (by rw [hpl.out]; omega) E ec w2 hA
  rw [hpl.out] at hsat
  replace hsat := Lib.hid hsat
  replace S2 := Lib.hid S2
  clear hch S1 T hA hV c0 c1
  go_wp2_with fail
  refine hK.out _ _ ⟨S2.out.cell (i := 1) rfl (o := 0) rfl, S2.out.cell (i := 1) rfl (o := 1) rfl⟩ (fun hS2 => ?_)
  clear hK hSc
  (try simp only [put_rules])
  (refine wpAnyH_ready (rs := [5]) (by kernel_rfl) (by simp) ?_; refine AllReadyH.cons rfl (fun K hK => ?_) AllReadyH.nil)
  go_simp
  go_at_call 90
  refine hsat.out.mono ?_
  rintro e w3 ⟨rfl, hb3⟩
  have S3 := Lib.hid (S2.out.grow hb3)
  generalize (List.range (2 ^ n)).any (modT (pickC xss is)) = q at *
  clear hsat S2 hb3
  go_wp2_with fail
  refine hK.out _ _ ⟨S3.out.cell (i := 1) rfl (o := 0) rfl, S3.out.cell (i := 1) rfl (o := 1) rfl⟩ (fun hS3 => ?_)
  clear hK hS2
  (try simp only [put_rules])
  (refine wpAnyH_take (i := 6) (v := ?_) rfl (by kernel_rfl) (by kernel_rfl) (by kernel_rfl) (fun _ _ _ h => h) (Or.inl ⟨by rfl, ?_⟩) (by assumption) ?_; rotate_left; (focus (intro w hSw; (try dsimp only at hSw); go_simp; (try with_reducible rfl); done)); (try simp only [put_rules]))
  (refine wpAnyH_take (i := 7) (v := ?_) rfl (by kernel_rfl) (by kernel_rfl) (by kernel_rfl) (fun _ _ _ h => h) (Or.inl ⟨by rfl, ?_⟩) (by assumption) ?_; rotate_left; (focus (intro w hSw; (try dsimp only at hSw); go_simp; (try with_reducible rfl); done)); (try simp only [put_rules]))
  (refine wpAnyH_done (by kernel_rfl) ?_ _)
  have hB := Lib.hid S3.out.below
  clear S3 hS3
  go_wp2_with fail
  go_ret
  exact ⟨ret_bool hcb.out.symm, hB.out⟩

set_option maxRecDepth 100000 in
set_option maxHeartbeats 4000000 in
theorem l5Core_any (n : Nat) (hn : n ≤ 12) (xss : List (List Int)) (hc : ∀ c ∈ xss, ClS c) (is : List Nat) (hi : ∀ i ∈ is, i < xss.length) (hl : is.length ≤ 100000) (A D : Option Addr) (cap dc : Nat) (w : World) (hx : ClsAt w A xss) (hy : IntsAt w D (ofN is)) :
    Calls Try.prog 116 #[.agg #[.int .i64 n, .slice A xss.length cap], .slice D is.length dc] w fun e w' => e = .returned (.bool (coreB n xss is)) ∧ Below w.heap.size w w' := by
  have S0 := (Sp.start w).alloc_box #[.int .i64 n, .slice A xss.length cap] 26
  have c0 := S0.cell (i := 0) rfl (o := 0) rfl
  have c1 := S0.cell (i := 0) rfl (o := 1) rfl
  have S1 := S0.drew
  have hch := Lib.hid (l5Some_any n xss is hi hl A D cap dc _ (hx.grow S1.below) (hy.grow S1.below))
  have hpl := Lib.hid (pick_len xss is)
  have hpc := Lib.hid (pick_cls hc hi)
  replace S1 := Lib.hid S1
  have hge := idxP_ge (modT (pickC xss is)) (List.range (2 ^ n))
  have hcb : coreB n xss is = !(List.range (2 ^ n)).any (modT (pickC xss is)) := rfl
  rw [← hge] at hcb
  have hcb2 : Hid (coreB n xss is = decide (idxP (modT (pickC xss is)) (List.range (2 ^ n)) < 0)) := by
    unfold Hid
    rw [hcb]
    by_cases h : 0 ≤ idxP (modT (pickC xss is)) (List.range (2 ^ n))
    · rw [decide_eq_true h, decide_eq_false (by omega)]; rfl
    · rw [decide_eq_false h, decide_eq_true (by omega)]; rfl
  clear S0 hx hy hi hc hcb hge
  go_enter Try.func116, Try.ntmps116
  go_wp2_with fail
  refine wp_region_held_lit (S := (fun w' => w'.cell? ⟨w.heap.size, 0, none⟩ = some (.int .i64 n) ∧ w'.cell? ⟨w.heap.size, 1, none⟩ = some (.slice A xss.length cap))) 8 [false, false, false, false, false, false, false, false] (by kernel_rfl) (by kernel_rfl) (by kernel_rfl) ?_ ?_
  · exact ⟨c0, c1⟩
  intro hSc
  (refine wpAnyH_take (i := 0) (v := ?_) rfl (by kernel_rfl) (by kernel_rfl) (by kernel_rfl) (fun _ _ _ h => h) (Or.inl ⟨by rfl, ?_⟩) (by assumption) ?_; rotate_left; (focus (intro w hSw; (try dsimp only at hSw); go_simp; (try with_reducible rfl); done)); (try simp only [put_rules]))
  (refine wpAnyH_take (i := 1) (v := ?_) rfl (by kernel_rfl) (by kernel_rfl) (by kernel_rfl) (fun _ _ _ h => h) (Or.inl ⟨by rfl, ?_⟩) (by assumption) ?_; rotate_left; (focus (intro w hSw; (try dsimp only at hSw); go_simp; (try with_reducible rfl); done)); (try simp only [put_rules]))
  (refine wpAnyH_take (i := 2) (v := ?_) rfl (by kernel_rfl) (by kernel_rfl) (by kernel_rfl) (fun _ _ _ h => h) (Or.inl ⟨by rfl, ?_⟩) (by assumption) ?_; rotate_left; (focus (intro w hSw; (try dsimp only at hSw); go_simp; (try with_reducible rfl); done)); (try simp only [put_rules]))
  (refine wpAnyH_take (i := 3) (v := ?_) rfl (by kernel_rfl) (by kernel_rfl) (by kernel_rfl) (fun _ _ _ h => h) (Or.inl ⟨by rfl, ?_⟩) (by assumption) ?_; rotate_left; (focus (intro w hSw; (try dsimp only at hSw); go_simp; (try with_reducible rfl); done)); (try simp only [put_rules]))
  (refine wpAnyH_ready (rs := [4]) (by kernel_rfl) (by simp) ?_; refine AllReadyH.cons rfl (fun K hK => ?_) AllReadyH.nil)
  go_simp
  go_at_call 207
  refine hch.out.mono ?_
  rintro e w2 ⟨E, ec, us, rfl, hV, T⟩
  have S2 := S1.out.seq T
  have hA := PickD.cls hV T
  have hsat := l5First_any n hn _ hpc.out (by rw [hpl.out]; omega) E ec w2 hA
  rw [hpl.out] at hsat
  replace hsat := Lib.hid hsat
  replace S2 := Lib.hid S2
  clear hch S1 T hA hV c0 c1
  go_wp2_with fail
  refine hK.out _ _ ⟨S2.out.cell (i := 1) rfl (o := 0) rfl, S2.out.cell (i := 1) rfl (o := 1) rfl⟩ (fun hS2 => ?_)
  clear hK hSc
  (try simp only [put_rules])
  (refine wpAnyH_ready (rs := [5]) (by kernel_rfl) (by simp) ?_; refine AllReadyH.cons rfl (fun K hK => ?_) AllReadyH.nil)
  go_simp
  go_at_call 191
  refine hsat.out.mono ?_
  rintro e w3 ⟨rfl, hb3⟩
  have S3 := Lib.hid (S2.out.grow hb3)
  generalize idxP (modT (pickC xss is)) (List.range (2 ^ n)) = z at *
  clear hsat S2 hb3
  go_wp2_with fail
  refine hK.out _ _ ⟨S3.out.cell (i := 1) rfl (o := 0) rfl, S3.out.cell (i := 1) rfl (o := 1) rfl⟩ (fun hS3 => ?_)
  clear hK hS2
  (try simp only [put_rules])
  (refine wpAnyH_take (i := 6) (v := ?_) rfl (by kernel_rfl) (by kernel_rfl) (by kernel_rfl) (fun _ _ _ h => h) (Or.inl ⟨by rfl, ?_⟩) (by assumption) ?_; rotate_left; (focus (intro w hSw; (try dsimp only at hSw); go_simp; (try with_reducible rfl); done)); (try simp only [put_rules]))
  (refine wpAnyH_take (i := 7) (v := ?_) rfl (by kernel_rfl) (by kernel_rfl) (by kernel_rfl) (fun _ _ _ h => h) (Or.inl ⟨by rfl, ?_⟩) (by assumption) ?_; rotate_left; (focus (intro w hSw; (try dsimp only at hSw); go_simp; (try with_reducible rfl); done)); (try simp only [put_rules]))
  (refine wpAnyH_done (by kernel_rfl) ?_ _)
  have hB := Lib.hid S3.out.below
  clear S3 hS3
  go_wp2_with fail
  go_ret
  exact ⟨ret_bool hcb2.out.symm, hB.out⟩
end Go.Proofs.Ytmikconjhmhekaa
