/- Contracts: clauses that are drawn. -/
import Derived.Test.YtcdgpekefiplnaaCurS
import Derived.Test.YtcdgpekefiplnaaClQ
import Derived.Test.YtcdgpekefiplnaaPnB
import Derived.Deep.DeepCutAuto
import Derived.Deep.CutBlock
namespace Go.Proofs.Ytcdgpekefiplnaa
open Go.RowKit

theorem own_row {w : World} {B : Nat} {e : TypeId} {v : Value} {cs : List Int} (h : w.ownsRow B e 1 v cs.length (cs.map (.int .i64))) (hok : ∀ c ∈ cs, I64 c) : ∃ F, Ty.int.row true w v cs F ∧ F.Nodup ∧ ∀ b ∈ F, B ≤ b := by
  obtain ⟨F, hr, hF, hB⟩ := Ty.row_of_owns (T := Ty.int) h rfl (by decide) (Ty.all_int hok)
  refine ⟨F, hr, ?_, ?_⟩
  · rcases hF with rfl | ⟨g, _, _, _, rfl⟩ <;> simp
  · rcases hF with rfl | ⟨g, hg, _, _, rfl⟩
    · simp
    · intro b hb
      simp at hb
      omega
/-- Numbers that lie within bounds. -/
def Within (m : Int) (c : List Int) : Prop := ∀ x ∈ c, -m ≤ x ∧ x ≤ m
theorem Within.i64 {m : Int} {c : List Int} (h : Within m c) (hm : m ≤ 1000000) : ∀ x ∈ c, I64 x := fun x hx => by
  have := h x hx; unfold I64; omega
theorem within_without {m : Int} {c : List Int} (h : Within m c) (v : Int) : Within m (withoutB c v) := fun x hx => h x (List.mem_filter.1 hx).1
theorem within_put {m : Int} {c : List Int} {l : Int} (h : Within m c) (hl : -m ≤ l ∧ l ≤ m) : Within m (putB c l) := fun x hx => by
  unfold putB at hx
  rcases List.mem_append.1 hx with hx | hx
  · exact h x (List.mem_of_mem_take hx)
  · rcases List.mem_cons.1 hx with rfl | hx
    · exact hl
    · exact h x (List.mem_of_mem_drop hx)
/-- A drawn row of numbers. -/
def RowPost (n : Nat) (R : List Int → Prop) (A g : Nat) (ca : Option Addr) (cl cc : Nat) (w : World) (e : Ending) (w' : World) : Prop :=
  ∃ v c, e = .returned v ∧ w'.ownsRow w.heap.size 3 1 v c.length (c.map (.int .i64)) ∧ c.length ≤ n ∧ R c ∧ CurIs A g ca cl cc w' ∧ Chg [g] w w'

set_option maxRecDepth 100000 in
set_option maxHeartbeats 8000000 in
theorem cur_clause (vars : Int) (hv : -1 ≤ vars ∧ vars ≤ 13) (A g : Nat) (ca : Option Addr) (cl cc : Nat) (w : World) (h : CurIs A g ca cl cc w) (hA : A ≤ 50000000) :
    Calls Try.prog 62 #[.pointer (some ⟨g, 0, none⟩), .int .i64 vars] w (RowPost 4 (Within 13) (A + 60) g ca cl cc w) := by
  have hg := h.lt
  have S0 := (CS.start h).own_made 3 1
  have S2 := Lib.hid (S0.alloc (.cells #[.int .i64 1, .int .i64 2, .int .i64 2, .int .i64 3, .int .i64 3, .int .i64 4, .int .i64 0, .int .i64 2] 3))
  have hcall := Lib.hid (cur_among 0 4 (w.heap.size + 1) 0 8 8 A g ca cl cc _ S2.out.cur (by omega) (by decide) (by decide) (ints_new (by simp) fun j hj => by
    match j, hj with
    | 0, _ => exact ⟨_, rfl, by decide, by decide⟩
    | 1, _ => exact ⟨_, rfl, by decide, by decide⟩
    | 2, _ => exact ⟨_, rfl, by decide, by decide⟩
    | 3, _ => exact ⟨_, rfl, by decide, by decide⟩
    | 4, _ => exact ⟨_, rfl, by decide, by decide⟩
    | 5, _ => exact ⟨_, rfl, by decide, by decide⟩
    | 6, _ => exact ⟨_, rfl, by decide, by decide⟩
    | 7, _ => exact ⟨_, rfl, by decide, by decide⟩) (by omega))
  clear S0
  go_enter Try.func62, Try.ntmps62
  go_wp2_with fail
  refine hcall.out.mono ?_
  rintro e w2 ⟨_, ⟨m0, hm0, hm1, rfl⟩, rfl, hi2, hc2⟩
  have S3 := S2.out.turn hi2 hc2
  obtain ⟨m, rfl⟩ := Int.eq_ofNat_of_zero_le hm0
  have HS0 : Hid (CS w g ca cl cc (A + 10 + 10 * (4 - m)) w2 [Own 3 1 (.slice (some ⟨w.heap.size, 0, none⟩) ([] : List Int).length 0) ([] : List Int).length (([] : List Int).map (.int .i64))]) := S3.mono (by omega)
  clear S2 S3 hcall hi2 hc2
  go_wp2_with fail
  go_loopw [5, 6, 7] (fun vo vn _ wr => ∃ (m : Nat) (c : List Int) (B : Option Addr) (cap : Nat), m ≤ 4 ∧ c.length + m ≤ 4 ∧ vn = .int .i64 m ∧ vo = .slice B c.length cap ∧ Hid (Within 13 c) ∧ Hid (CS w g ca cl cc (A + 10 + 10 * (4 - m)) wr [Own 3 1 (.slice B c.length cap) c.length (c.map (.int .i64))])) (fun _ vn _ _ => (intOf vn).toNat)
  case atStart => exact ⟨m, [], _, _, by omega, by simp; omega, rfl, rfl, fun x hx => by simp at hx, HS0⟩
  case round =>
    obtain ⟨m, c, B, cap, hm4, hcm, rfl, rfl, HW, HS⟩ := hrel
    clear HS0
    go_upto_region 3 with fail
    go_cut [17] (fun s wx => ∃ q : Bool, s = .bool q ∧ Hid (q = true → 0 < m ∧ 0 < vars) ∧ Hid (CS w g ca cl cc (A + 10 + 10 * (4 - m)) wx [Own 3 1 (.slice B c.length cap) c.length (c.map (.int .i64))]))
    case first =>
      have hcond : (0 < m ∧ 0 < vars) ∨ ¬ 0 < m ∨ (0 < m ∧ ¬ 0 < vars) := by omega
      rcases hcond with ⟨hm, hn0⟩ | hm | ⟨hm, hn0⟩
      · have d1 : decide ((0 : Int) < (m : Int)) = true := decide_eq_true (by omega)
        have d2 : decide ((0 : Int) < vars) = true := decide_eq_true (by omega)
        go_wp2_with fail
        go_meet
        exact ⟨true, rfl, fun _ => ⟨hm, hn0⟩, HS⟩
      · have d1 : decide ((0 : Int) < (m : Int)) = false := decide_eq_false (by omega)
        go_wp2_with fail
        go_meet
        exact ⟨false, rfl, (fun e => by cases e), HS⟩
      · have d1 : decide ((0 : Int) < (m : Int)) = true := decide_eq_true (by omega)
        have d2 : decide ((0 : Int) < vars) = false := decide_eq_false (by omega)
        go_wp2_with fail
        go_meet
        exact ⟨false, rfl, (fun e => by cases e), HS⟩
    case rest =>
    clear HS
    obtain ⟨q, rfl, hq, HS⟩ := hcut
    cases q
    · have ho := Lib.hid (HS.out.owns_end (i := 0) rfl)
      have hI := Lib.hid (HS.out.cur.mono (show A + 10 + 10 * (4 - m) ≤ A + 60 by omega))
      have hC := Lib.hid HS.out.chg
      clear HS hq
      go_wp2_with fail
      go_ret
      exact ⟨_, c, rfl, ho.out, by omega, HW.out, hI.out, hC.out⟩
    · obtain ⟨hm, hn0⟩ := hq.out rfl
      clear hq
      have hcur := Lib.hid HS.out.cur
      have hmw : IntKind.i64.wrap ((m : Int) - 1) = ((m - 1 : Nat) : Int) := by rw [IntWalk.i64_in _ (by omega)]; omega
      go_wp2_with fail
      refine (cur_pick_at (lo := 0) (hi := vars - 1) hcur.out (by omega) (by omega) (by omega) (by omega) (by omega)).mono ?_
      rintro e w3 ⟨_, ⟨x, hx0, hx1, rfl⟩, rfl, hi3, hc3⟩
      have hxw : IntKind.i64.wrap (1 + x) = 1 + x := IntWalk.i64_in _ (by omega)
      have hxw2 : IntKind.i64.wrap (-(1 + x)) = -(1 + x) := IntWalk.i64_in _ (by omega)
      have S3 := HS.out.turn hi3 hc3
      obtain ⟨F, hr, _, _⟩ := own_row (S3.own (i := 0) rfl) (HW.out.i64 (by decide))
      have hwo := Lib.hid (l2Without_any _ c (1 + x) F w3 (Ty.row_down hr) (by omega))
      replace S3 := Lib.hid S3
      clear HS hcur hi3 hc3 hr
      go_wp2_with fail
      refine hwo.out.mono ?_
      rintro e w4 ⟨v4, rfl, ho4, hb4⟩
      have S4 := (S3.out.own_new hb4 (owns_zero ho4) (owns_ge ho4)).third2
      have HW4 := Lib.hid (within_without HW.out (1 + x))
      have hl4 : (withoutB c (1 + x)).length ≤ c.length := List.length_filter_le _ _
      obtain ⟨B4, cap4, rfl⟩ := own_slice ho4
      generalize withoutB c (1 + x) = c4 at *
      replace S4 := Lib.hid S4
      clear S3 hwo ho4 hb4 HW
      go_wp2_with fail
      refine (cur_one 2 _ g ca cl cc _ S4.out.cur (by omega) (by omega)).mono ?_
      rintro e w5 ⟨_, ⟨q, rfl⟩, rfl, hi5, hc5⟩
      have S5 := Lib.hid (S4.out.turn hi5 hc5)
      clear S4 hi5 hc5
      go_upto_if 28 with fail
      go_cut [7] (fun s wx => ∃ l : Int, s = .int .i64 l ∧ -13 ≤ l ∧ l ≤ 13 ∧ Hid (CS w g ca cl cc (A + 10 + 10 * (4 - m) + 4) wx [Own 3 1 (.slice B4 c4.length cap4) c4.length (c4.map (.int .i64))]))
      case first =>
        cases q
        · go_wp2_with fail
          go_meet
          exact ⟨1 + x, rfl, by omega, by omega, S5.out.mono (by omega)⟩
        · go_wp2_with fail
          go_meet
          exact ⟨-(1 + x), rfl, by omega, by omega, S5.out.mono (by omega)⟩
      case rest =>
      clear S5
      obtain ⟨l, rfl, hl0, hl1, HS⟩ := hcut
      obtain ⟨F5, hr5, _, _⟩ := own_row (HS.out.own (i := 0) rfl) (HW4.out.i64 (by decide))
      have hpu := Lib.hid (l2Put_any _ c4 l F5 _ (Ty.row_down hr5) (by omega))
      clear hr5
      go_wp2_with fail
      refine hpu.out.mono ?_
      rintro e w6 ⟨v6, rfl, ho6, hb6⟩
      have S6 := (HS.out.own_new hb6 (owns_zero ho6) (owns_ge ho6)).third2
      have HW6 := Lib.hid (within_put HW4.out ⟨hl0, hl1⟩)
      have hl6 := put_len c4 l
      obtain ⟨B6, cap6, rfl⟩ := own_slice ho6
      generalize putB c4 l = c6 at *
      have S7 : Hid (CS w g ca cl cc (A + 10 + 10 * (4 - (m - 1))) w6 [Own 3 1 (.slice B6 c6.length cap6) c6.length (c6.map (.int .i64))]) := S6.mono (by omega)
      replace hl6 := Lib.hid hl6
      clear HS hpu ho6 hb6 S6
      go_wp2_with fail
      go_roundw
      case rel => exact ⟨m - 1, c6, B6, cap6, by omega, by rw [hl6.out]; omega, rfl, rfl, HW6, S7⟩
      case measure => simp [intOf]; omega
end Go.Proofs.Ytcdgpekefiplnaa
