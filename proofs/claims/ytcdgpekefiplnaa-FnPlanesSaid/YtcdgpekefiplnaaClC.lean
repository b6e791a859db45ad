/- Contracts: valid Cnfs, in the reference and in the program. -/
import Derived.Test.YtcdgpekefiplnaaClB
import Derived.Test.YtcdgpekefiplnaaCnfB
namespace Go.Proofs.Ytcdgpekefiplnaa
open Go.RowKit

/-- A valid Cnf. -/
def goodB (vars : Int) (xss : List (List Int)) : Bool := inB vars 0 12 && decide (xss.length ≤ 60) && xss.all (clauseB vars)
theorem good_no {vars : Int} {xss : List (List Int)} {k : Nat} (hk : k < xss.length) (h : clauseB vars xss[k] = false) : goodB vars xss = false := by
  have : xss.all (clauseB vars) = false := by
    rw [Bool.eq_false_iff]
    intro h2
    rw [List.all_eq_true] at h2
    rw [h2 _ (List.getElem_mem hk)] at h
    cases h
  simp [goodB, this]
theorem all_step {vars : Int} {xss : List (List Int)} {k : Nat} (hk : k < xss.length) (h0 : (xss.take k).all (clauseB vars) = true) (h : clauseB vars xss[k] = true) : (xss.take (k + 1)).all (clauseB vars) = true := by
  rw [List.take_succ_eq_append_getElem hk, List.all_append, h0]
  simp [h]

theorem l2Clause_at {vars : Int} {v : Value} {c : List Int} {F : List Nat} {w : World} {q : Bool} (hx : Ty.int.row false w v c F) (h : clauseB vars c = q) :
    Calls Try.prog 43 #[.int .i64 vars, v] w fun e w' => e = .returned (.bool q) ∧ Below w.heap.size w w' := h ▸ l2Clause_any vars v c F w hx
theorem implIsClause_at {vars : Int} {v : Value} {c : List Int} {F : List Nat} {w : World} {q : Bool} (hx : Ty.int.row false w v c F) (h : clauseB vars c = q) :
    Calls Try.prog 41 #[.int .i64 vars, v] w fun e w' => e = .returned (.bool q) ∧ Below w.heap.size w w' := h ▸ implIsClause_any vars v c F w hx

/- left out: the seat has no spec.l3Good -/

/-- A boxed Cnf in the first new block. -/
def CBox (w : World) (n : Int) (v : Value) (wx : World) : Prop :=
  wx.cell? ⟨w.heap.size, 0, none⟩ = some (.int .i64 n) ∧ wx.cell? ⟨w.heap.size, 1, none⟩ = some v ∧ Below w.heap.size w wx ∧ w.heap.size < wx.heap.size
theorem CBox.grow {w : World} {n : Int} {v : Value} {wx wy : World} (h : CBox w n v wx) (hb : Below wx.heap.size wx wy) : CBox w n v wy := by
  obtain ⟨h0, h1, hB, hs⟩ := h
  have hc := (bcell hb).1
  exact ⟨(hc _ _ hs).trans h0, (hc _ _ hs).trans h1, btr hB hb, Nat.lt_of_lt_of_le hs hb.size⟩
theorem CBox.new (w : World) (n : Int) (v : Value) (T : TypeId) : CBox w n v (w.alloc (.cells #[.int .i64 n, v] T)) :=
  ⟨by simp [go_sem], by simp [go_sem], bal (bb _) _, by simp⟩

/- left out: the seat has no spec.l2Good -/

set_option maxHeartbeats 2000000 in
theorem implIsCnf_any (vars : Int) (v : Value) (xss : List (List Int)) (F : List Nat) (w : World) (hx : (Ty.slice Ty.int).row false w v xss F) :
    Calls Try.prog 45 #[.agg #[.int .i64 vars, v]] w fun e w' => e = .returned (.bool (goodB vars xss)) ∧ Below w.heap.size w w' := by
  obtain ⟨a, cap, rfl, hx1, hx2, hx3⟩ := row_slices hx
  have hst := CBox.new w vars (.slice a xss.length cap) 48
  replace hst := Lib.hid hst
  go_enter Try.func45, Try.ntmps45
  go_wp2_with fail
  go_loopw [8] (fun i wr => ∃ k : Nat, k ≤ xss.length ∧ i = .int .i64 k ∧ Hid ((xss.take k).all (clauseB vars) = true) ∧ CBox w vars (.slice a xss.length cap) wr) (fun i _ => xss.length - (intOf i).toNat)
  case atStart => exact ⟨0, Nat.zero_le _, rfl, by simp [Hid], hst.out⟩
  case round =>
    obtain ⟨k, hk, rfl, HR, HC⟩ := hrel
    have HJ := Lib.hid HC
    obtain ⟨c0, c1, hB, hs⟩ := HC
    by_cases hlt : k < xss.length
    · rcases hx3 with ⟨rfl, rfl⟩ | ⟨hxn, b, off, rfl, _, hxc⟩
      · exact absurd hlt (by simp)
      obtain ⟨u, Fk, hc, hr, _⟩ := hxc k hlt
      have hr' := Ty.row_below hr hB (Ty.row_lt hr)
      obtain ⟨ua, uc, rfl, hu1, hu2⟩ := Ty.row_len hr
      have k0 := (hc.keep (hB.block b hc.lt)).1
      cases hl : clauseB vars xss[k]
      · have HN : Hid (goodB vars xss = false) := good_no hlt hl
        go_wp2_with (go_at_call 41; refine (implIsClause_at hr' hl).mono ?_; rintro e w1 ⟨rfl, hb1⟩)
        go_ret
        exact ⟨ret_bool HN.out.symm, btr hB hb1⟩
      · have HN : Hid ((xss.take (k + 1)).all (clauseB vars) = true) := all_step hlt HR.out hl
        clear HR
        go_wp2_with (go_at_call 41; refine (implIsClause_at hr' hl).mono ?_; rintro e w1 ⟨rfl, hb1⟩)
        go_roundw
        case rel => exact ⟨k + 1, by omega, by go_num, HN, HJ.out.grow hb1⟩
        case measure => simp [intOf]; omega
    · obtain rfl : k = xss.length := by omega
      have HN := HR.out
      rw [List.take_length] at HN
      have hd : Hid (goodB vars xss = (inB vars 0 12 && decide ((xss.length : Int) ≤ 60))) := by
        unfold Hid goodB
        rw [HN, Bool.and_true]
        congr 1
        exact decide_eq_decide.2 (by omega)
      clear HR HN
      cases hv : inB vars 0 12
      · go_wp2_with (go_at_call 49; refine (varsOk_any _ _).mono ?_; rw [hv]; rintro e w1 ⟨rfl, rfl⟩)
        go_ret
        exact ⟨ret_bool (by rw [hd.out, hv]; rfl), hB⟩
      · go_wp2_with (go_at_call 49; refine (varsOk_any _ _).mono ?_; rw [hv]; rintro e w1 ⟨rfl, rfl⟩)
        go_ret
        exact ⟨ret_bool (by rw [hd.out, hv]; rfl), hB⟩

/- left out: the seat has no spec.l3Asked -/
end Go.Proofs.Ytcdgpekefiplnaa
