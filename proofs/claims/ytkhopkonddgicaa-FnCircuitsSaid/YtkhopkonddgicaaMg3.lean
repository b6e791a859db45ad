/- Lemmas and contracts for a law, put together out of several texts: TrA ClB CnfB ClC TrB TrC TrD MdA MdB GtE GtG GtH GtI GtN MdC. -/
import Derived.Test.YtkhopkonddgicaaMg2
import Derived.Test.YtkhopkonddgicaaMg1
import Derived.Shelf.Abstract
import Derived.Lib.RabinKarpLaws
import Derived.Lib.QuietBelow
import Derived.WalkKit
import Derived.Deep.RegionHeld3
import Derived.Deep.DeepCutAuto
import Derived.RangeFuncNested
import Derived.RangeFuncBound
import Derived.RangeFuncCalls
import Derived.RangeFuncLeaves
import Derived.RangeFuncBox
import Derived.Shelf.RegionOpen
import Derived.OwnWalkIn
import Derived.TacticsInMore
import Derived.LoopNIn
import Derived.LoopIn
/- Contracts: whether a list holds an element for which a function answers yes; truth of clauses at bits. -/
namespace Go.Proofs.Ytkhopkonddgicaa
open Go.RowKit

/-- Clauses that can be read. -/
structure ClsAt (w : World) (A : Option Addr) (xss : List (List Int)) : Prop where
  at_ : ∀ j (hj : j < xss.length), ∃ b off B c, A = some ⟨b, off, none⟩ ∧ w.cell? ⟨b, off + j, none⟩ = some (.slice B xss[j].length c) ∧ IntsAt w B xss[j]
theorem ClsAt.grow {w w' : World} {A : Option Addr} {xss : List (List Int)} (h : ClsAt w A xss) (hb : Below w.heap.size w w') : ClsAt w' A xss := by
  refine ⟨fun j hj => ?_⟩
  obtain ⟨b, off, B, c, e, h1, h2⟩ := h.at_ j hj
  exact ⟨b, off, B, c, e, (hb.cell (World.block_lt_of_cell? _ _ h1)).trans h1, h2.grow hb⟩
/-- A function of a clause, told by what it answers. -/
def FnS (R : List Int → Prop) (w0 : World) (g : FuncId) (cb : Array Value) (p : List Int → Bool) : Prop :=
  ∀ (xs : List Int) (A : Option Addr) (c : Nat) w, IntsAt w A xs → R xs → Below w0.heap.size w0 w → Calls Try.prog g (#[.slice A xs.length c] ++ cb) w fun e w' => e = .returned (.bool (p xs)) ∧ Below w.heap.size w w'
def idxP {α : Type} (p : α → Bool) (xs : List α) : Int := if xs.any p then (xs.findIdx p : Nat) else -1
theorem idxP_ge {α : Type} (p : α → Bool) (xs : List α) : decide (0 ≤ idxP p xs) = xs.any p := by
  unfold idxP
  cases h : xs.any p
  · rfl
  · simp
theorem idxP_here {α : Type} {p : α → Bool} {xs : List α} {k : Nat} (hk : k < xs.length) (h : (xs.take k).any p = false) (e : p xs[k] = true) : idxP p xs = k := by
  unfold idxP
  rw [if_pos (List.any_eq_true.2 ⟨xs[k], List.getElem_mem hk, e⟩)]
  have : xs.findIdx p = k := by
    rw [List.findIdx_eq hk]
    refine ⟨e, fun j hj => ?_⟩
    have h2 := List.any_eq_false.1 h xs[j] (by rw [List.mem_take_iff_getElem]; exact ⟨j, by omega, rfl⟩)
    simpa using h2
  rw [this]
theorem any_next {α : Type} {p : α → Bool} {xs : List α} {k : Nat} (hk : k < xs.length) (h : (xs.take k).any p = false) (e : p xs[k] = false) : (xs.take (k + 1)).any p = false := by
  rw [List.take_succ_eq_append_getElem hk, List.any_append, h]
  simp [e]
theorem idxP_none {α : Type} {p : α → Bool} {xs : List α} (h : (xs.take xs.length).any p = false) : idxP p xs = -1 := by
  unfold idxP
  rw [List.take_length] at h
  rw [h]; rfl

set_option maxRecDepth 100000 in
set_option maxHeartbeats 2000000 in
theorem indexFuncI_any {g : FuncId} {cb : Array Value} {p : Int → Bool} {R : Int → Prop} (eg : Enter1 g) (xs : List (Int)) (A : Option Addr) (c : Nat) (w : World) (hx : IntsAt w A xs) (hl : xs.length ≤ 1000000) (hR : ∀ x ∈ xs, R x) (hf : FnI R w g cb p) :
    Calls Try.prog 116 #[.slice A xs.length c, .func (.func g) #[] cb] w fun e w' => e = .returned (.int .i64 (idxP p xs)) ∧ Below w.heap.size w w' := by
  unfold Enter1 at eg
  have hN := Lib.hid hx
  replace hf := Lib.hid hf
  have hRR := Lib.hid hR
  have HB0 := Lib.hid (bb w)
  clear hx hR
  go_enter Try.func116, Try.ntmps116
  go_wp2_with fail
  go_loopw [5, 8] (fun _ i wr => ∃ k : Nat, k ≤ xs.length ∧ i = .int .i64 k ∧ Hid ((xs.take k).any p = false) ∧ Hid (Below w.heap.size w wr)) (fun _ i _ => xs.length - (intOf i).toNat)
  case atStart => exact ⟨0, Nat.zero_le _, rfl, rfl, HB0⟩
  case round =>
    obtain ⟨k, hk, rfl, HD, HB⟩ := hrel
    clear HB0
    by_cases hlt : k < xs.length
    · obtain ⟨b, off, rfl, m0⟩ := (hN.out.grow HB.out).at_ k hlt
      have hcall := Lib.hid (hf.out xs[k] wr (hRR.out _ (List.getElem_mem hlt)) HB.out)
      have hyes := Lib.hid (idxP_here hlt HD.out)
      have hno := Lib.hid (any_next hlt HD.out)
      generalize hq : p xs[k] = q at *
      clear hq
      cases q
      · have hD := Lib.hid (hno.out rfl)
        clear hyes hno HD
        go_wp2_with fail
        refine hcall.out.mono ?_
        rintro e w1 ⟨rfl, hb1⟩
        have HB2 := Lib.hid (btr HB.out hb1)
        clear hcall hb1 HB m0
        go_wp2_with fail
        go_roundw
        case rel => exact ⟨k + 1, by omega, by go_num, hD, HB2⟩
        case measure => simp [intOf]; omega
      · have hRes := Lib.hid (hyes.out rfl)
        clear hyes hno HD
        go_wp2_with fail
        refine hcall.out.mono ?_
        rintro e w1 ⟨rfl, hb1⟩
        have HB2 := Lib.hid (btr HB.out hb1)
        clear hcall hb1 HB m0
        go_wp2_with fail
        go_ret
        exact ⟨ret_int hRes.out.symm, HB2.out⟩
    · obtain rfl : k = xs.length := by omega
      have hRes := Lib.hid (idxP_none HD.out)
      go_wp2_with fail
      go_ret
      exact ⟨ret_int hRes.out.symm, HB.out⟩

theorem containsI_any {g : FuncId} {cb : Array Value} {p : Int → Bool} {R : Int → Prop} (eg : Enter1 g) (xs : List (Int)) (A : Option Addr) (c : Nat) (w : World) (hx : IntsAt w A xs) (hl : xs.length ≤ 1000000) (hR : ∀ x ∈ xs, R x) (hf : FnI R w g cb p) :
    Calls Try.prog 98 #[.slice A xs.length c, .func (.func g) #[] cb] w fun e w' => e = .returned (.bool (xs.any p)) ∧ Below w.heap.size w w' := by
  have hcall := Lib.hid (indexFuncI_any eg xs A c w hx hl hR hf)
  have hge := Lib.hid (idxP_ge p xs)
  generalize idxP p xs = i at *
  clear hx hf hR
  go_enter Try.func98, Try.ntmps98
  go_wp2_with fail
  refine hcall.out.mono ?_
  rintro e w1 ⟨rfl, hb1⟩
  clear hcall
  go_wp2_with fail
  go_ret
  exact ⟨ret_bool hge.out, hb1⟩

set_option maxRecDepth 100000 in
set_option maxHeartbeats 2000000 in
theorem indexFuncS_any {g : FuncId} {cb : Array Value} {p : List Int → Bool} {R : List Int → Prop} (eg : Enter1 g) (xs : List (List Int)) (A : Option Addr) (c : Nat) (w : World) (hx : ClsAt w A xs) (hl : xs.length ≤ 1000000) (hR : ∀ x ∈ xs, R x) (hf : FnS R w g cb p) :
    Calls Try.prog 111 #[.slice A xs.length c, .func (.func g) #[] cb] w fun e w' => e = .returned (.int .i64 (idxP p xs)) ∧ Below w.heap.size w w' := by
  unfold Enter1 at eg
  have hN := Lib.hid hx
  replace hf := Lib.hid hf
  have hRR := Lib.hid hR
  have HB0 := Lib.hid (bb w)
  clear hx hR
  go_enter Try.func111, Try.ntmps111
  go_wp2_with fail
  go_loopw [5, 8] (fun _ i wr => ∃ k : Nat, k ≤ xs.length ∧ i = .int .i64 k ∧ Hid ((xs.take k).any p = false) ∧ Hid (Below w.heap.size w wr)) (fun _ i _ => xs.length - (intOf i).toNat)
  case atStart => exact ⟨0, Nat.zero_le _, rfl, rfl, HB0⟩
  case round =>
    obtain ⟨k, hk, rfl, HD, HB⟩ := hrel
    clear HB0
    by_cases hlt : k < xs.length
    · obtain ⟨b, off, Bk, ck, rfl, m0, hI⟩ := (hN.out.grow HB.out).at_ k hlt
      have hcall := Lib.hid (hf.out xs[k] Bk ck wr hI (hRR.out _ (List.getElem_mem hlt)) HB.out)
      clear hI
      have hyes := Lib.hid (idxP_here hlt HD.out)
      have hno := Lib.hid (any_next hlt HD.out)
      generalize hq : p xs[k] = q at *
      clear hq
      cases q
      · have hD := Lib.hid (hno.out rfl)
        clear hyes hno HD
        go_wp2_with fail
        refine hcall.out.mono ?_
        rintro e w1 ⟨rfl, hb1⟩
        have HB2 := Lib.hid (btr HB.out hb1)
        clear hcall hb1 HB m0
        go_wp2_with fail
        go_roundw
        case rel => exact ⟨k + 1, by omega, by go_num, hD, HB2⟩
        case measure => simp [intOf]; omega
      · have hRes := Lib.hid (hyes.out rfl)
        clear hyes hno HD
        go_wp2_with fail
        refine hcall.out.mono ?_
        rintro e w1 ⟨rfl, hb1⟩
        have HB2 := Lib.hid (btr HB.out hb1)
        clear hcall hb1 HB m0
        go_wp2_with fail
        go_ret
        exact ⟨ret_int hRes.out.symm, HB2.out⟩
    · obtain rfl : k = xs.length := by omega
      have hRes := Lib.hid (idxP_none HD.out)
      go_wp2_with fail
      go_ret
      exact ⟨ret_int hRes.out.symm, HB.out⟩

theorem containsS_any {g : FuncId} {cb : Array Value} {p : List Int → Bool} {R : List Int → Prop} (eg : Enter1 g) (xs : List (List Int)) (A : Option Addr) (c : Nat) (w : World) (hx : ClsAt w A xs) (hl : xs.length ≤ 1000000) (hR : ∀ x ∈ xs, R x) (hf : FnS R w g cb p) :
    Calls Try.prog 85 #[.slice A xs.length c, .func (.func g) #[] cb] w fun e w' => e = .returned (.bool (xs.any p)) ∧ Below w.heap.size w w' := by
  have hcall := Lib.hid (indexFuncS_any eg xs A c w hx hl hR hf)
  have hge := Lib.hid (idxP_ge p xs)
  generalize idxP p xs = i at *
  clear hx hf hR
  go_enter Try.func85, Try.ntmps85
  go_wp2_with fail
  refine hcall.out.mono ?_
  rintro e w1 ⟨rfl, hb1⟩
  clear hcall
  go_wp2_with fail
  go_ret
  exact ⟨ret_bool hge.out, hb1⟩
end Go.Proofs.Ytkhopkonddgicaa

/- Contracts: clauses, in the reference and in the program. -/
namespace Go.Proofs.Ytkhopkonddgicaa
open Go.RowKit

theorem l2Lit_at {v l : Int} {q : Bool} (h : litB v l = q) (w : World) : Calls Try.prog 109 #[.int .i64 v, .int .i64 l] w fun e w' => e = .returned (.bool q) ∧ Below w.heap.size w w' := h ▸ same_below (l2Lit_any v l w)
theorem isLiteral_at {v l : Int} {q : Bool} (h : litB v l = q) (w : World) : Calls Try.prog 107 #[.int .i64 v, .int .i64 l] w fun e w' => e = .returned (.bool q) ∧ Below w.heap.size w w' := h ▸ same_below (isLiteral_any v l w)
theorem l2Var_at {l x : Int} (h : absV l = x) (w : World) : Calls Try.prog 110 #[.int .i64 l] w fun e w' => e = .returned (.int .i64 x) ∧ Below w.heap.size w w' := h ▸ same_below (l2Var_any l w)
theorem abs_at {l x : Int} (hl : I64 l) (h : absV l = x) (w : World) : Calls Try.prog 108 #[.int .i64 l] w fun e w' => e = .returned (.int .i64 x) ∧ Below w.heap.size w w' := h ▸ same_below (abs_any l w hl)

theorem cOk_zero (vars : Int) (c : List Int) (h : 0 < c.length) : cOk vars c 0 = litB vars c[0] := by simp [cOk, List.getD_eq_getElem?_getD, List.getElem?_eq_getElem h]
theorem cOk_succ (vars : Int) (c : List Int) (k : Nat) (h : k + 1 < c.length) : cOk vars c (k + 1) = (litB vars c[k + 1] && decide (absV (c[k]'(by omega)) < absV c[k + 1])) := by
  simp [cOk, List.getD_eq_getElem?_getD, List.getElem?_eq_getElem h, List.getElem?_eq_getElem (show k < c.length by omega)]
theorem clause_no {vars : Int} {c : List Int} {k : Nat} (hk : k < c.length) (h : cOk vars c k = false) : clauseB vars c = false := by
  unfold clauseB
  rw [cOkTo_le (k := k + 1) hk (by rw [cOkTo_succ, h, Bool.and_false]), Bool.and_false]
theorem clause_step {vars : Int} {c : List Int} {k : Nat} (h0 : cOkTo vars c k = true) (h : cOk vars c k = true) : cOkTo vars c (k + 1) = true := by rw [cOkTo_succ, h0, h]; rfl

set_option maxHeartbeats 1000000 in
theorem l2Clause_any (vars : Int) (v : Value) (c : List Int) (F : List Nat) (w : World) (hx : Ty.int.row false w v c F) :
    Calls Try.prog 83 #[.int .i64 vars, v] w fun e w' => e = .returned (.bool (clauseB vars c)) ∧ Below w.heap.size w w' := by
  obtain ⟨a, cap, rfl, hx1, hx2, hxI, hx3⟩ := row_int hx
  cases hv : inB vars 0 12
  · have hd : Hid (clauseB vars c = false) := by unfold Hid clauseB; rw [hv]; rfl
    go_enter Try.func83, Try.ntmps83
    go_wp2_with (go_at_call 82; refine (l2Vars_any _ _).mono ?_; rw [hv]; rintro e w1 ⟨rfl, rfl⟩)
    go_ret
    exact ⟨ret_bool hd.out.symm, bb _⟩
  have hd : Hid (clauseB vars c = cOkTo vars c c.length) := by unfold Hid clauseB; rw [hv]; rfl
  go_enter Try.func83, Try.ntmps83
  go_wp2_with (go_at_call 82; refine (l2Vars_any _ _).mono ?_; rw [hv]; rintro e w1 ⟨rfl, rfl⟩)
  go_loopw [5] (fun i wr => ∃ k : Nat, k ≤ c.length ∧ i = .int .i64 k ∧ Hid (cOkTo vars c k = true) ∧ Below w.heap.size w wr) (fun i _ => c.length - (intOf i).toNat)
  case atStart => exact ⟨0, Nat.zero_le _, rfl, by simp [Hid, cOkTo], bb _⟩
  case round =>
    obtain ⟨k, hk, rfl, HR, hB⟩ := hrel
    by_cases hlt : k < c.length
    · rcases hx3 with ⟨rfl, rfl⟩ | ⟨hxn, b, off, rfl, rfl, hxc⟩
      · exact absurd hlt (by simp)
      have k0 := cell_regrown ((hxc k hlt).keep (hB.block b (hxc k hlt).lt)).1
      cases hl : litB vars c[k]
      · have HN : Hid (clauseB vars c = false) := clause_no hlt (by unfold cOk; rw [List.getD_eq_getElem?_getD, List.getElem?_eq_getElem hlt]; simp [hl])
        go_wp2_with fail
        refine wp_region_quiet_below (by kernel_rfl) (by kernel_rfl) ?_
        repeat (any_goals (first | go_big_quiet_step ((go_at_call 109; exact Calls.regrown_of (l2Lit_at hl _)))))
        refine wpQuiet_nil ?_
        rintro w1 ⟨p, rfl⟩
        go_wp2_with fail
        go_ret
        exact ⟨ret_bool HN.out.symm, hB.trans ((below_regrown _ _ _).mono hB.size)⟩
      rcases Nat.eq_zero_or_pos k with rfl | hpos
      · have HN : Hid (cOkTo vars c (0 + 1) = true) := clause_step rfl (by rw [cOk_zero _ _ hlt]; exact hl)
        rw [Nat.add_zero] at k0
        clear HR
        go_wp2_with fail
        refine wp_region_quiet_below (by kernel_rfl) (by kernel_rfl) ?_
        repeat (any_goals (first | go_big_quiet_step ((go_at_call 109; exact Calls.regrown_of (l2Lit_at hl _)))))
        refine wpQuiet_nil ?_
        rintro w1 ⟨p, rfl⟩
        go_wp2_with fail
        go_roundw
        case rel => exact ⟨0 + 1, by omega, by go_num, HN, hB.trans ((below_regrown _ _ _).mono hB.size)⟩
        case measure => simp [intOf]; omega
      have hj : k - 1 < c.length := by omega
      have k1 := cell_regrown ((hxc (k - 1) hj).keep (hB.block b (hxc (k - 1) hj).lt)).1
      have HS : cOk vars c k = decide (absV c[k - 1] < absV c[k]) := by
        obtain ⟨j, rfl⟩ : ∃ j, k = j + 1 := ⟨k - 1, by omega⟩
        rw [cOk_succ vars c j hlt, hl, Bool.true_and]
        rfl
      obtain ⟨x, hx⟩ : ∃ x, absV c[k - 1] = x := ⟨_, rfl⟩
      obtain ⟨y, hy⟩ : ∃ y, absV c[k] = y := ⟨_, rfl⟩
      rw [hx, hy] at HS
      have hg : (0 : Int) < (k : Int) := by omega
      by_cases hc : x < y
      · have HN : Hid (cOkTo vars c (k + 1) = true) := clause_step HR.out (by rw [HS]; simpa using hc)
        clear HS HR
        go_wp2_with fail
        refine wp_region_quiet_below (by kernel_rfl) (by kernel_rfl) ?_
        repeat (any_goals (first | go_big_quiet_step (first | (go_at_call 109; exact Calls.regrown_of (l2Lit_at hl _)) | (go_at_call 110; first | (with_reducible exact Calls.regrown_of (l2Var_at hx _)) | (with_reducible exact Calls.regrown_of (l2Var_at hy _))))))
        refine wpQuiet_nil ?_
        rintro w1 ⟨p, rfl⟩
        go_wp2_with fail
        go_roundw
        case rel => exact ⟨k + 1, by omega, by go_num, HN, hB.trans ((below_regrown _ _ _).mono hB.size)⟩
        case measure => simp [intOf]; omega
      · have HN : Hid (clauseB vars c = false) := clause_no hlt (by rw [HS]; simpa using hc)
        clear HS HR
        go_wp2_with fail
        refine wp_region_quiet_below (by kernel_rfl) (by kernel_rfl) ?_
        repeat (any_goals (first | go_big_quiet_step (first | (go_at_call 109; exact Calls.regrown_of (l2Lit_at hl _)) | (go_at_call 110; first | (with_reducible exact Calls.regrown_of (l2Var_at hx _)) | (with_reducible exact Calls.regrown_of (l2Var_at hy _))))))
        refine wpQuiet_nil ?_
        rintro w1 ⟨p, rfl⟩
        go_wp2_with fail
        go_ret
        exact ⟨ret_bool HN.out.symm, hB.trans ((below_regrown _ _ _).mono hB.size)⟩
    · obtain rfl : k = c.length := by omega
      have HN := HR.out
      replace HN := (show Hid (cOkTo vars c c.length = true) from HN)
      go_wp2_with fail
      go_ret
      exact ⟨ret_bool (by rw [hd.out, HN.out]), hB⟩
set_option maxHeartbeats 1000000 in
theorem implIsClause_any (vars : Int) (v : Value) (c : List Int) (F : List Nat) (w : World) (hx : Ty.int.row false w v c F) :
    Calls Try.prog 81 #[.int .i64 vars, v] w fun e w' => e = .returned (.bool (clauseB vars c)) ∧ Below w.heap.size w w' := by
  obtain ⟨a, cap, rfl, hx1, hx2, hxI, hx3⟩ := row_int hx
  go_enter Try.func81, Try.ntmps81
  go_wp2_with fail
  go_loopw [9] (fun i wr => ∃ k : Nat, k ≤ c.length ∧ i = .int .i64 k ∧ Hid (cOkTo vars c k = true) ∧ Below w.heap.size w wr) (fun i _ => c.length - (intOf i).toNat)
  case atStart => exact ⟨0, Nat.zero_le _, rfl, by simp [Hid, cOkTo], bb _⟩
  case round =>
    obtain ⟨k, hk, rfl, HR, hB⟩ := hrel
    by_cases hlt : k < c.length
    · rcases hx3 with ⟨rfl, rfl⟩ | ⟨hxn, b, off, rfl, rfl, hxc⟩
      · exact absurd hlt (by simp)
      have k0 := ((hxc k hlt).keep (hB.block b (hxc k hlt).lt)).1
      have hI0 : I64 c[k] := hxI _ (List.getElem_mem _)
      cases hl : litB vars c[k]
      · have HN : Hid (clauseB vars c = false) := clause_no hlt (by unfold cOk; rw [List.getD_eq_getElem?_getD, List.getElem?_eq_getElem hlt]; simp [hl])
        go_wp2_with fail
        refine wp_region_quiet_below (by kernel_rfl) (by kernel_rfl) ?_
        repeat (any_goals (first | go_big_quiet_step ((go_at_call 107; exact Calls.regrown_of (isLiteral_at hl _)))))
        refine wpQuiet_nil ?_
        rintro w1 ⟨p, rfl⟩
        go_wp2_with fail
        go_ret
        exact ⟨ret_bool HN.out.symm, hB.trans ((below_regrown _ _ _).mono hB.size)⟩
      rcases Nat.eq_zero_or_pos k with rfl | hpos
      · have HN : Hid (cOkTo vars c (0 + 1) = true) := clause_step rfl (by rw [cOk_zero _ _ hlt]; exact hl)
        rw [Nat.add_zero] at k0
        clear HR
        go_wp2_with fail
        refine wp_region_quiet_below (by kernel_rfl) (by kernel_rfl) ?_
        repeat (any_goals (first | go_big_quiet_step ((go_at_call 107; exact Calls.regrown_of (isLiteral_at hl _)))))
        refine wpQuiet_nil ?_
        rintro w1 ⟨p, rfl⟩
        go_wp2_with fail
        go_roundw
        case rel => exact ⟨0 + 1, by omega, by go_num, HN, hB.trans ((below_regrown _ _ _).mono hB.size)⟩
        case measure => simp [intOf]; omega
      have hj : k - 1 < c.length := by omega
      have k1 := cell_regrown ((hxc (k - 1) hj).keep (hB.block b (hxc (k - 1) hj).lt)).1
      have hI1 : I64 c[k - 1] := hxI _ (List.getElem_mem _)
      have HS : cOk vars c k = decide (absV c[k - 1] < absV c[k]) := by
        obtain ⟨j, rfl⟩ : ∃ j, k = j + 1 := ⟨k - 1, by omega⟩
        rw [cOk_succ vars c j hlt, hl, Bool.true_and]
        rfl
      obtain ⟨x, hx⟩ : ∃ x, absV c[k - 1] = x := ⟨_, rfl⟩
      obtain ⟨y, hy⟩ : ∃ y, absV c[k] = y := ⟨_, rfl⟩
      rw [hx, hy] at HS
      have hg : (0 : Int) < (k : Int) := by omega
      by_cases hc : x < y
      · have HN : Hid (cOkTo vars c (k + 1) = true) := clause_step HR.out (by rw [HS]; simpa using hc)
        clear HS HR
        go_wp2_with fail
        refine wp_region_quiet_below (by kernel_rfl) (by kernel_rfl) ?_
        repeat (any_goals (first | go_big_quiet_step (first | (go_at_call 107; exact Calls.regrown_of (isLiteral_at hl _)) | (go_at_call 108; first | (with_reducible exact Calls.regrown_of (abs_at hI1 hx _)) | (with_reducible exact Calls.regrown_of (abs_at hI0 hy _))))))
        refine wpQuiet_nil ?_
        rintro w1 ⟨p, rfl⟩
        go_wp2_with fail
        go_roundw
        case rel => exact ⟨k + 1, by omega, by go_num, HN, hB.trans ((below_regrown _ _ _).mono hB.size)⟩
        case measure => simp [intOf]; omega
      · have HN : Hid (clauseB vars c = false) := clause_no hlt (by rw [HS]; simpa using hc)
        clear HS HR
        go_wp2_with fail
        refine wp_region_quiet_below (by kernel_rfl) (by kernel_rfl) ?_
        repeat (any_goals (first | go_big_quiet_step (first | (go_at_call 107; exact Calls.regrown_of (isLiteral_at hl _)) | (go_at_call 108; first | (with_reducible exact Calls.regrown_of (abs_at hI1 hx _)) | (with_reducible exact Calls.regrown_of (abs_at hI0 hy _))))))
        refine wpQuiet_nil ?_
        rintro w1 ⟨p, rfl⟩
        go_wp2_with fail
        go_ret
        exact ⟨ret_bool HN.out.symm, hB.trans ((below_regrown _ _ _).mono hB.size)⟩
    · obtain rfl : k = c.length := by omega
      have HN : Hid (clauseB vars c = inB vars 0 12) := by unfold Hid clauseB; rw [HR.out, Bool.and_true]
      clear HR
      go_wp2_with (go_at_call 60; refine (varsOk_any _ _).mono ?_; rintro e w1 ⟨rfl, rfl⟩)
      go_ret
      exact ⟨ret_bool HN.out.symm, hB⟩
end Go.Proofs.Ytkhopkonddgicaa

/- Contracts: rows of rows of ints and Cnfs in the laws. -/
namespace Go.Proofs.Ytkhopkonddgicaa
open Go.RowKit

/- left out: the seat has no laws.szIntS -/

/-- The number of numbers in the first k rows. -/
def sumTo (xss : List (List Int)) (k : Nat) : Nat := ((xss.take k).map List.length).sum
theorem sumTo_succ (xss : List (List Int)) (k : Nat) (hk : k < xss.length) : sumTo xss (k + 1) = sumTo xss k + xss[k].length := by
  unfold sumTo; rw [List.take_succ_eq_append_getElem hk, List.map_append, List.sum_append]; simp
theorem sumTo_all (xss : List (List Int)) : sumTo xss xss.length = (xss.map List.length).sum := by unfold sumTo; rw [List.take_length]
theorem sumTo_le (xss : List (List Int)) (k : Nat) : sumTo xss k ≤ (xss.map List.length).sum := by
  unfold sumTo
  conv => rhs; rw [← List.take_append_drop k xss]
  rw [List.map_append, List.sum_append]; omega
theorem sumTo_zero (xss : List (List Int)) : sumTo xss 0 = 0 := rfl
theorem get_len_le (xss : List (List Int)) (k : Nat) (hk : k < xss.length) : xss[k].length ≤ (xss.map List.length).sum := by
  have := sumTo_le xss (k + 1)
  rw [sumTo_succ xss k hk] at this; omega

/-- What is left, or -1. -/
def szOf (n : Int) (b : Nat) : Int := if n < (b : Int) then -1 else n - b
theorem szOf_no {n : Int} {b : Nat} (h : n < (b : Int)) : szOf n b = -1 := if_pos h
theorem szOf_yes {n : Int} {b : Nat} (h : (b : Int) ≤ n) : szOf n b = n - b := if_neg (by omega)

/- left out: the seat has no laws.szIntSS -/

theorem infoRow : (Try.prog.info? 45).map (fun i => (i.zero, i.size, i.bytes)) = some (some (.slice none 0 0), 1, 24) := by kernel_rfl

/- left out: the seat has no laws.toIntSS -/

/- left out: the seat has no laws.eqIntSS -/
end Go.Proofs.Ytkhopkonddgicaa

/- Contracts: valid Cnfs, in the reference and in the program. -/
namespace Go.Proofs.Ytkhopkonddgicaa
open Go.RowKit

/-- A valid Cnf. -/
def goodB (vars : Int) (xss : List (List Int)) : Bool := inB vars 0 12 && decide (xss.length ≤ 60) && xss.all (clauseB vars)
theorem good_no {vars : Int} {xss : List (List Int)} {k : Nat} (hk : k < xss.length) (h : clauseB vars xss[k] = false) : goodB vars xss = false := by
  have : xss.all (clauseB vars) = false := by
    rw [Bool.eq_false_iff]
    intro h2
    rw [List.all_eq_true] at h2
    rw [h2 _ (List.getElem_mem hk)] at h
    cases h
  simp [goodB, this]
theorem all_step {vars : Int} {xss : List (List Int)} {k : Nat} (hk : k < xss.length) (h0 : (xss.take k).all (clauseB vars) = true) (h : clauseB vars xss[k] = true) : (xss.take (k + 1)).all (clauseB vars) = true := by
  rw [List.take_succ_eq_append_getElem hk, List.all_append, h0]
  simp [h]

theorem l2Clause_at {vars : Int} {v : Value} {c : List Int} {F : List Nat} {w : World} {q : Bool} (hx : Ty.int.row false w v c F) (h : clauseB vars c = q) :
    Calls Try.prog 83 #[.int .i64 vars, v] w fun e w' => e = .returned (.bool q) ∧ Below w.heap.size w w' := h ▸ l2Clause_any vars v c F w hx
theorem implIsClause_at {vars : Int} {v : Value} {c : List Int} {F : List Nat} {w : World} {q : Bool} (hx : Ty.int.row false w v c F) (h : clauseB vars c = q) :
    Calls Try.prog 81 #[.int .i64 vars, v] w fun e w' => e = .returned (.bool q) ∧ Below w.heap.size w w' := h ▸ implIsClause_any vars v c F w hx

/- left out: the seat has no spec.l3Good -/

/-- A boxed Cnf in the first new block. -/
def CBox (w : World) (n : Int) (v : Value) (wx : World) : Prop :=
  wx.cell? ⟨w.heap.size, 0, none⟩ = some (.int .i64 n) ∧ wx.cell? ⟨w.heap.size, 1, none⟩ = some v ∧ Below w.heap.size w wx ∧ w.heap.size < wx.heap.size
theorem CBox.grow {w : World} {n : Int} {v : Value} {wx wy : World} (h : CBox w n v wx) (hb : Below wx.heap.size wx wy) : CBox w n v wy := by
  obtain ⟨h0, h1, hB, hs⟩ := h
  have hc := (bcell hb).1
  exact ⟨(hc _ _ hs).trans h0, (hc _ _ hs).trans h1, btr hB hb, Nat.lt_of_lt_of_le hs hb.size⟩
theorem CBox.new (w : World) (n : Int) (v : Value) (T : TypeId) : CBox w n v (w.alloc (.cells #[.int .i64 n, v] T)) :=
  ⟨by simp [go_sem], by simp [go_sem], bal (bb _) _, by simp⟩

set_option maxHeartbeats 2000000 in
theorem l2Good_any (vars : Int) (v : Value) (xss : List (List Int)) (F : List Nat) (w : World) (hx : (Ty.slice Ty.int).row false w v xss F) :
    Calls Try.prog 40 #[.agg #[.int .i64 vars, v]] w fun e w' => e = .returned (.bool (goodB vars xss)) ∧ Below w.heap.size w w' := by
  obtain ⟨a, cap, rfl, hx1, hx2, hx3⟩ := row_slices hx
  cases hv : inB vars 0 12
  · have hd : Hid (goodB vars xss = false) := by unfold Hid goodB; rw [hv]; rfl
    go_enter Try.func40, Try.ntmps40
    go_wp2_with (go_at_call 82; refine (l2Vars_any _ _).mono ?_; rw [hv]; rintro e w1 ⟨rfl, rfl⟩)
    go_ret
    exact ⟨ret_bool hd.out.symm, bal (bb _) _⟩
  by_cases hL : (60 : Int) < (xss.length : Int)
  · have hd : Hid (goodB vars xss = false) := by unfold Hid goodB; rw [decide_eq_false (show ¬ xss.length ≤ 60 by omega)]; simp
    go_enter Try.func40, Try.ntmps40
    go_wp2_with (go_at_call 82; refine (l2Vars_any _ _).mono ?_; rw [hv]; rintro e w1 ⟨rfl, rfl⟩)
    go_ret
    exact ⟨ret_bool hd.out.symm, bal (bb _) _⟩
  have hd : Hid (goodB vars xss = xss.all (clauseB vars)) := by unfold Hid goodB; rw [hv, decide_eq_true (show xss.length ≤ 60 by omega)]; rfl
  have hst := CBox.new w vars (.slice a xss.length cap) 26
  replace hst := Lib.hid hst
  go_enter Try.func40, Try.ntmps40
  go_wp2_with (go_at_call 82; refine (l2Vars_any _ _).mono ?_; rw [hv]; rintro e w1 ⟨rfl, rfl⟩)
  go_loopw [3] (fun i wr => ∃ k : Nat, k ≤ xss.length ∧ i = .int .i64 k ∧ Hid ((xss.take k).all (clauseB vars) = true) ∧ CBox w vars (.slice a xss.length cap) wr) (fun i _ => xss.length - (intOf i).toNat)
  case atStart => exact ⟨0, Nat.zero_le _, rfl, by simp [Hid], hst.out⟩
  case round =>
    obtain ⟨k, hk, rfl, HR, HC⟩ := hrel
    have HJ := Lib.hid HC
    obtain ⟨c0, c1, hB, hs⟩ := HC
    by_cases hlt : k < xss.length
    · rcases hx3 with ⟨rfl, rfl⟩ | ⟨hxn, b, off, rfl, _, hxc⟩
      · exact absurd hlt (by simp)
      obtain ⟨u, Fk, hc, hr, _⟩ := hxc k hlt
      have hr' := Ty.row_below hr hB (Ty.row_lt hr)
      obtain ⟨ua, uc, rfl, hu1, hu2⟩ := Ty.row_len hr
      have k0 := cell_regrown (hc.keep (hB.block b hc.lt)).1
      have k1 := cell_regrown c0
      have k2 := cell_regrown c1
      cases hl : clauseB vars xss[k]
      · have HN : Hid (goodB vars xss = false) := good_no hlt hl
        go_wp2_with fail
        refine wp_region_quiet_below (by kernel_rfl) (by kernel_rfl) ?_
        repeat (any_goals (first | go_big_quiet_step ((go_at_call 83; exact Calls.regrown_of (l2Clause_at (Ty.row_below hr' (below_regrown _ _ _) (Ty.row_lt hr')) hl)))))
        refine wpQuiet_nil ?_
        rintro w1 ⟨p, rfl⟩
        go_wp2_with fail
        go_ret
        exact ⟨ret_bool HN.out.symm, hB.trans ((below_regrown _ _ _).mono hB.size)⟩
      · have HN : Hid ((xss.take (k + 1)).all (clauseB vars) = true) := all_step hlt HR.out hl
        clear HR
        go_wp2_with fail
        refine wp_region_quiet_below (by kernel_rfl) (by kernel_rfl) ?_
        repeat (any_goals (first | go_big_quiet_step ((go_at_call 83; exact Calls.regrown_of (l2Clause_at (Ty.row_below hr' (below_regrown _ _ _) (Ty.row_lt hr')) hl)))))
        refine wpQuiet_nil ?_
        rintro w1 ⟨p, rfl⟩
        go_wp2_with fail
        go_roundw
        case rel => exact ⟨k + 1, by omega, by go_num, HN, HJ.out.grow (below_regrown _ _ _)⟩
        case measure => simp [intOf]; omega
    · obtain rfl : k = xss.length := by omega
      have HN := HR.out
      rw [List.take_length] at HN
      replace HN := Lib.hid HN
      clear HR
      go_wp2_with fail
      go_ret
      exact ⟨ret_bool (by rw [hd.out, HN.out]), hB⟩

set_option maxHeartbeats 2000000 in
theorem implIsCnf_any (vars : Int) (v : Value) (xss : List (List Int)) (F : List Nat) (w : World) (hx : (Ty.slice Ty.int).row false w v xss F) :
    Calls Try.prog 39 #[.agg #[.int .i64 vars, v]] w fun e w' => e = .returned (.bool (goodB vars xss)) ∧ Below w.heap.size w w' := by
  obtain ⟨a, cap, rfl, hx1, hx2, hx3⟩ := row_slices hx
  have hst := CBox.new w vars (.slice a xss.length cap) 26
  replace hst := Lib.hid hst
  go_enter Try.func39, Try.ntmps39
  go_wp2_with fail
  go_loopw [8] (fun i wr => ∃ k : Nat, k ≤ xss.length ∧ i = .int .i64 k ∧ Hid ((xss.take k).all (clauseB vars) = true) ∧ CBox w vars (.slice a xss.length cap) wr) (fun i _ => xss.length - (intOf i).toNat)
  case atStart => exact ⟨0, Nat.zero_le _, rfl, by simp [Hid], hst.out⟩
  case round =>
    obtain ⟨k, hk, rfl, HR, HC⟩ := hrel
    have HJ := Lib.hid HC
    obtain ⟨c0, c1, hB, hs⟩ := HC
    by_cases hlt : k < xss.length
    · rcases hx3 with ⟨rfl, rfl⟩ | ⟨hxn, b, off, rfl, _, hxc⟩
      · exact absurd hlt (by simp)
      obtain ⟨u, Fk, hc, hr, _⟩ := hxc k hlt
      have hr' := Ty.row_below hr hB (Ty.row_lt hr)
      obtain ⟨ua, uc, rfl, hu1, hu2⟩ := Ty.row_len hr
      have k0 := (hc.keep (hB.block b hc.lt)).1
      cases hl : clauseB vars xss[k]
      · have HN : Hid (goodB vars xss = false) := good_no hlt hl
        go_wp2_with (go_at_call 81; refine (implIsClause_at hr' hl).mono ?_; rintro e w1 ⟨rfl, hb1⟩)
        go_ret
        exact ⟨ret_bool HN.out.symm, btr hB hb1⟩
      · have HN : Hid ((xss.take (k + 1)).all (clauseB vars) = true) := all_step hlt HR.out hl
        clear HR
        go_wp2_with (go_at_call 81; refine (implIsClause_at hr' hl).mono ?_; rintro e w1 ⟨rfl, hb1⟩)
        go_roundw
        case rel => exact ⟨k + 1, by omega, by go_num, HN, HJ.out.grow hb1⟩
        case measure => simp [intOf]; omega
    · obtain rfl : k = xss.length := by omega
      have HN := HR.out
      rw [List.take_length] at HN
      have hd : Hid (goodB vars xss = (inB vars 0 12 && decide ((xss.length : Int) ≤ 60))) := by
        unfold Hid goodB
        rw [HN, Bool.and_true]
        congr 1
        exact decide_eq_decide.2 (by omega)
      clear HR HN
      cases hv : inB vars 0 12
      · go_wp2_with (go_at_call 60; refine (varsOk_any _ _).mono ?_; rw [hv]; rintro e w1 ⟨rfl, rfl⟩)
        go_ret
        exact ⟨ret_bool (by rw [hd.out, hv]; rfl), hB⟩
      · go_wp2_with (go_at_call 60; refine (varsOk_any _ _).mono ?_; rw [hv]; rintro e w1 ⟨rfl, rfl⟩)
        go_ret
        exact ⟨ret_bool (by rw [hd.out, hv]; rfl), hB⟩

/- left out: the seat has no spec.l3Asked -/
end Go.Proofs.Ytkhopkonddgicaa

/- Contracts: truth of clauses and of Cnfs at bits, in the program. -/
namespace Go.Proofs.Ytkhopkonddgicaa
open Go.RowKit

/-- A literal that can be told at bits. -/
def LitS (l : Int) : Prop := l ≠ 0 ∧ -1000 ≤ l ∧ l ≤ 1000
theorem LitS.i64 {l : Int} (h : LitS l) : I64 l := by unfold LitS at h; unfold I64; omega
theorem absV_lit {l : Int} (h : LitS l) : absV l = (l.natAbs : Int) := by
  unfold LitS at h
  unfold absV
  split
  · rw [negV_small (by unfold I64; omega) (by omega)]; omega
  · omega
/-- A bit that is shifted to the end. -/
theorem bit_at (b : Nat) (hb : b < 2 ^ 62) (m : Nat) : bits .and .i64 ((b : Int) / 2 ^ min m 64) 1 = if b.testBit m then 1 else 0 := by
  have e0 : (b : Int) / 2 ^ min m 64 = ((b / 2 ^ min m 64 : Nat) : Int) := by
    rw [Int.natCast_ediv, Int.natCast_pow]; rfl
  rw [e0, and_one _ (Nat.lt_of_le_of_lt (Nat.div_le_self _ _) (Nat.lt_trans hb (by decide)))]
  have h64 : ∀ s, 64 ≤ s → b.testBit s = false := fun s hs => Nat.testBit_lt_two_pow (Nat.lt_of_lt_of_le hb (Nat.pow_le_pow_right (by decide) (by omega)))
  have e : b.testBit m = b.testBit (min m 64) := by
    rcases Nat.lt_or_ge m 64 with h | h
    · rw [Nat.min_eq_left (by omega)]
    · rw [h64 _ h, h64 _ (by omega)]
  rw [e, Nat.testBit_eq_decide_div_mod_eq]
  rcases Nat.mod_two_eq_zero_or_one (b / 2 ^ min m 64) with h | h
  · rw [h]; simp
  · rw [h]; simp

set_option maxRecDepth 100000 in
set_option maxHeartbeats 4000000 in
theorem holds1_any (l : Int) (hl : LitS l) (b g : Nat) (hb : b < 2 ^ 62) (w : World) (k0 : w.cell? ⟨g, 0, none⟩ = some (.int .i64 b)) :
    Calls Try.prog 112 #[.int .i64 l, .pointer (some ⟨g, 0, none⟩)] w fun e w' => e = .returned (.bool (litT b l)) ∧ Below w.heap.size w w' := by
  obtain ⟨m, hm⟩ : ∃ m, l.natAbs = m + 1 := ⟨l.natAbs - 1, by unfold LitS at hl; omega⟩
  have ha := fun W => abs_at hl.i64 (absV_lit hl) W
  have hand := bit_at b hb m
  have hR : Hid (litT b l = (b.testBit (l.natAbs - 1) == decide (0 < l))) := rfl
  rw [hm, show m + 1 - 1 = m by omega] at hR
  rw [hm, show ((m + 1 : Nat) : Int) = (m : Int) + 1 by omega] at ha
  have hw1 : IntKind.i64.wrap ((m : Int) + 1 - 1) = (m : Int) := by rw [IntWalk.i64_in _ (by unfold LitS at hl; omega)]; omega
  have hw2 : IntKind.i64.wrap (m : Int) = (m : Int) := by rw [IntWalk.i64_in _ (by unfold LitS at hl; omega)]
  have hm2 : m ≤ 1000 := by unfold LitS at hl; omega
  generalize b.testBit m = q at *
  clear hm hl
  cases hp : decide (0 < l)
  all_goals
    rw [hp] at hR
    cases q
  all_goals
    simp only [if_true, if_false, Bool.false_eq_true] at hand
    go_enter Try.func112, Try.ntmps112
    go_wp2_with fail
    refine wp_region_held_lit (S := (fun w' => w'.cell? ⟨g, 0, none⟩ = some (.int .i64 b))) 11 [false, false, false, false, false, false, false, false, false, false, false] (by kernel_rfl) (by kernel_rfl) (by kernel_rfl) ?_ ?_
    · exact k0
    intro hS
    (refine wpAnyH_take (i := 0) (v := ?_) rfl (by kernel_rfl) (by kernel_rfl) (by kernel_rfl) (fun _ _ _ h => h) (Or.inl ⟨by rfl, ?_⟩) (by assumption) ?_; rotate_left; (focus (intro w hSw; (try dsimp only at hSw); go_simp; (try with_reducible rfl); done)); (try simp only [put_rules]))
    (refine wpAnyH_take (i := 1) (v := ?_) rfl (by kernel_rfl) (by kernel_rfl) (by kernel_rfl) (fun _ _ _ h => h) (Or.inl ⟨by rfl, ?_⟩) (by assumption) ?_; rotate_left; (focus (intro w hSw; (try dsimp only at hSw); go_simp; (try with_reducible rfl); done)); (try simp only [put_rules]))
    (refine wpAnyH_take (i := 7) (v := ?_) rfl (by kernel_rfl) (by kernel_rfl) (by kernel_rfl) (fun _ _ _ h => h) (Or.inl ⟨by rfl, ?_⟩) (by assumption) ?_; rotate_left; (focus (intro w hSw; (try dsimp only at hSw); go_simp; (try with_reducible rfl); done)); (try simp only [put_rules]))
    (refine wpAnyH_take (i := 8) (v := ?_) rfl (by kernel_rfl) (by kernel_rfl) (by kernel_rfl) (fun _ _ _ h => h) (Or.inl ⟨by rfl, ?_⟩) (by assumption) ?_; rotate_left; (focus (intro w hSw; (try dsimp only at hSw); go_simp; (try with_reducible rfl); done)); (try simp only [put_rules]))
    (refine wpAnyH_ready (rs := [2]) (by kernel_rfl) (by simp) ?_; refine AllReadyH.cons rfl (fun K hK => ?_) AllReadyH.nil)
    go_simp
    go_at_call 108
    refine (ha _).mono ?_
    rintro e w1 ⟨rfl, hb1⟩
    have hB1 := btr (bdr (bb w)) hb1
    have k1 := ((bcell hB1).1 g 0 (World.block_lt_of_cell? _ _ k0)).trans k0
    go_wp2_with fail
    refine hK.out _ _ k1 (fun hS2 => ?_)
    clear hK hS
    (try simp only [put_rules])
    (refine wpAnyH_take (i := 3) (v := ?_) rfl (by kernel_rfl) (by kernel_rfl) (by kernel_rfl) (fun _ _ _ h => h) (Or.inl ⟨by rfl, ?_⟩) (by assumption) ?_; rotate_left; (focus (intro w hSw; (try dsimp only at hSw); go_simp; (try with_reducible rfl); done)); (try simp only [put_rules]))
    (refine wpAnyH_take (i := 4) (v := ?_) rfl (by kernel_rfl) (by kernel_rfl) (by kernel_rfl) (fun _ _ _ h => h) (Or.inl ⟨by rfl, ?_⟩) (by assumption) ?_; rotate_left; (focus (intro w hSw; (try dsimp only at hSw); go_simp; (try with_reducible rfl); done)); (try simp only [put_rules]))
    (refine wpAnyH_take (i := 5) (v := ?_) rfl (by kernel_rfl) (by kernel_rfl) (by kernel_rfl) (fun _ _ _ h => h) (Or.inl ⟨by rfl, ?_⟩) (by assumption) ?_; rotate_left; (focus (intro w hSw; (try dsimp only at hSw); go_simp; (try with_reducible rfl); done)); (try simp only [put_rules]))
    (refine wpAnyH_take (i := 6) (v := ?_) rfl (by kernel_rfl) (by kernel_rfl) (by kernel_rfl) (fun _ _ _ h => h) (Or.inl ⟨by rfl, ?_⟩) (by assumption) ?_; rotate_left; (focus (intro w hSw; (try dsimp only at hSw); go_simp; (try with_reducible rfl); done)); (try simp only [put_rules]))
    (refine wpAnyH_take (i := 9) (v := ?_) rfl (by kernel_rfl) (by kernel_rfl) (by kernel_rfl) (fun _ _ _ h => h) (Or.inl ⟨by rfl, ?_⟩) (by assumption) ?_; rotate_left; (focus (intro w hSw; (try dsimp only at hSw); go_simp; (try with_reducible rfl); done)); (try simp only [put_rules]))
    (refine wpAnyH_take (i := 10) (v := ?_) rfl (by kernel_rfl) (by kernel_rfl) (by kernel_rfl) (fun _ _ _ h => h) (Or.inl ⟨by rfl, ?_⟩) (by assumption) ?_; rotate_left; (focus (intro w hSw; (try dsimp only at hSw); go_simp; (try with_reducible rfl); done)); (try simp only [put_rules]))
    (refine wpAnyH_done (by kernel_rfl) ?_ _)
    go_wp2_with fail
    go_ret
    exact ⟨ret_bool hR.out.symm, hB1⟩

set_option maxRecDepth 100000 in
theorem holds_any (c : List Int) (hc : ∀ l ∈ c, LitS l) (hl : c.length ≤ 1000000) (A : Option Addr) (cap b : Nat) (hb : b < 2 ^ 62) (w : World) (hx : IntsAt w A c) :
    Calls Try.prog 87 #[.slice A c.length cap, .int .i64 b] w fun e w' => e = .returned (.bool (clT c b)) ∧ Below w.heap.size w w' := by
  have hB := bal (bb w) (.cells #[.int .i64 b] 3)
  have k0 : (w.alloc (.cells #[.int .i64 b] 3)).cell? ⟨w.heap.size, 0, none⟩ = some (.int .i64 b) := cell_of_row _ _ _ _ _ _ (heap_alloc_new w _)
  have eg : Enter1 112 := enters_of Try.func112 (by kernel_rfl) rfl
  have hf : FnI LitS (w.alloc (.cells #[.int .i64 b] 3)) 112 #[.pointer (some ⟨w.heap.size, 0, none⟩)] (litT b) := by
    intro x W hx hbl
    exact holds1_any x hx b w.heap.size hb W (((bcell hbl).1 w.heap.size 0 (by simp)).trans k0)
  have hcall := Lib.hid (containsI_any eg c A cap _ (hx.grow hB) hl hc hf)
  rw [show c.any (litT b) = clT c b from rfl] at hcall
  clear hx k0 eg hf
  go_enter Try.func87, Try.ntmps87
  go_wp2_with fail
  refine hcall.out.mono ?_
  rintro e w1 ⟨rfl, hb1⟩
  have hB2 := btr hB hb1
  clear hcall hb1 hB
  go_wp2_with fail
  go_ret
  exact ⟨rfl, hB2⟩

/-- A model: all clauses are true. -/
def modT (xss : List (List Int)) (b : Nat) : Bool := xss.all fun c => clT c b
def ClS (c : List Int) : Prop := (∀ l ∈ c, LitS l) ∧ c.length ≤ 1000
set_option maxRecDepth 100000 in
theorem isModel1_any (c : List Int) (hc : ClS c) (A : Option Addr) (cap b g : Nat) (hb : b < 2 ^ 62) (w : World) (hx : IntsAt w A c) (k0 : w.cell? ⟨g, 0, none⟩ = some (.int .i64 b)) :
    Calls Try.prog 86 #[.slice A c.length cap, .pointer (some ⟨g, 0, none⟩)] w fun e w' => e = .returned (.bool (!(clT c b))) ∧ Below w.heap.size w w' := by
  have hcall := Lib.hid (holds_any c hc.1 (by have := hc.2; omega) A cap b hb w hx)
  clear hx
  go_enter Try.func86, Try.ntmps86
  go_wp2_with fail
  refine hcall.out.mono ?_
  rintro e w1 ⟨rfl, hb1⟩
  clear hcall
  go_wp2_with fail
  go_ret
  exact ⟨rfl, hb1⟩

set_option maxRecDepth 100000 in
theorem isModel_any (xss : List (List Int)) (hc : ∀ c ∈ xss, ClS c) (hl : xss.length ≤ 1000000) (A : Option Addr) (cap b : Nat) (hb : b < 2 ^ 62) (w : World) (hx : ClsAt w A xss) :
    Calls Try.prog 47 #[.slice A xss.length cap, .int .i64 b] w fun e w' => e = .returned (.bool (modT xss b)) ∧ Below w.heap.size w w' := by
  have hB := bal (bb w) (.cells #[.int .i64 b] 3)
  have k0 : (w.alloc (.cells #[.int .i64 b] 3)).cell? ⟨w.heap.size, 0, none⟩ = some (.int .i64 b) := cell_of_row _ _ _ _ _ _ (heap_alloc_new w _)
  have eg : Enter1 86 := enters_of Try.func86 (by kernel_rfl) rfl
  have hf : FnS ClS (w.alloc (.cells #[.int .i64 b] 3)) 86 #[.pointer (some ⟨w.heap.size, 0, none⟩)] (fun c => !(clT c b)) := by
    intro x B cp W hI hx hbl
    exact isModel1_any x hx B cp b w.heap.size hb W hI (((bcell hbl).1 w.heap.size 0 (by simp)).trans k0)
  have hcall := Lib.hid (containsS_any eg xss A cap _ (hx.grow hB) hl hc hf)
  have hR : Hid (modT xss b = !(xss.any fun c => !(clT c b))) := by
    unfold Hid modT
    rw [List.all_eq_not_any_not]
  generalize (xss.any fun c => !(clT c b)) = q at *
  clear hx k0 eg hf
  go_enter Try.func47, Try.ntmps47
  go_wp2_with fail
  refine hcall.out.mono ?_
  rintro e w1 ⟨rfl, hb1⟩
  have hB2 := btr hB hb1
  clear hcall hb1 hB
  go_wp2_with fail
  go_ret
  exact ⟨ret_bool hR.out.symm, hB2⟩
end Go.Proofs.Ytkhopkonddgicaa

/- Contracts: all models in order, in the program. -/
namespace Go.Proofs.Ytkhopkonddgicaa
open Go.RowKit

theorem pow12 {v : Nat} (hv : v ≤ 12) : wrap64 ((2 : Int) ^ v) = ((2 ^ v : Nat) : Int) ∧ 2 ^ v ≤ 4096 := by
  match v, hv with
  | 0, _ | 1, _ | 2, _ | 3, _ | 4, _ | 5, _ | 6, _ | 7, _ | 8, _ | 9, _ | 10, _ | 11, _ | 12, _ => exact ⟨by unfold wrap64; decide, by decide⟩

set_option maxRecDepth 100000 in
set_option maxHeartbeats 4000000 in
theorem models_any {g : FuncId} {cb : Array Value} (eg : Enter1 g) (n : Nat) (hn : n ≤ 12) (xss : List (List Int)) (hc : ∀ c ∈ xss, ClS c) (hl : xss.length ≤ 1000000) (A : Option Addr) (cap : Nat) (w : World)
    (F : List Nat) (hF : ∀ b ∈ F, b < w.heap.size) (P : Nat → World → Prop) (h0 : P 0 w) (hgrow : ∀ k w w', P k w → Below w.heap.size w w' → P k w') (hcls : ∀ k w, P k w → ClsAt w A xss)
    (hnot : ∀ k w, modT xss k = false → P k w → P (k + 1) w)
    (hstep : ∀ k w, k < 2 ^ n → modT xss k = true → P k w → Calls Try.prog g (#[.int .i64 k] ++ cb) w fun e w' => ∃ q : Bool, e = .returned (.bool q) ∧ Chg F w w' ∧ (if q then P (k + 1) w' else P (2 ^ n) w')) :
    Calls Try.prog 43 #[.agg #[.int .i64 n, .slice A xss.length cap], .func (.func g) #[] cb] w fun e w' => e = .returned (.tuple #[]) ∧ P (2 ^ n) w' := by
  unfold Enter1 at eg
  obtain ⟨hsh, hp⟩ := pow12 hn
  generalize 2 ^ n = N at *
  have c0 : (w.alloc (.cells #[.int .i64 n, .slice A xss.length cap] 26)).cell? ⟨w.heap.size, 0, none⟩ = some (.int .i64 n) := cell_of_row _ _ _ _ _ _ (heap_alloc_new w _)
  have c1 : (w.alloc (.cells #[.int .i64 n, .slice A xss.length cap] 26)).cell? ⟨w.heap.size, 1, none⟩ = some (.slice A xss.length cap) := cell_of_row _ _ _ _ _ _ (heap_alloc_new w _)
  have HP0 := Lib.hid (hgrow 0 w _ h0 (bal (bb w) (.cells #[.int .i64 n, .slice A xss.length cap] 26)))
  have hFF : w.heap.size ∉ F := fun h => by have := hF _ h; omega
  replace hgrow := Lib.hid hgrow
  replace hcls := Lib.hid hcls
  replace hnot := Lib.hid hnot
  replace hstep := Lib.hid hstep
  have hcc := Lib.hid hc
  replace hFF := Lib.hid hFF
  clear h0 hc hF
  go_enter Try.func43, Try.ntmps43
  go_wp2_with fail
  rw [hsh]
  go_loopw [4, 8] (fun _ i wr => ∃ k : Nat, k ≤ N ∧ i = .int .i64 k ∧ wr.cell? ⟨w.heap.size, 1, none⟩ = some (.slice A xss.length cap) ∧ Hid (P k wr)) (fun _ i _ => N - (intOf i).toNat)
  case atStart => exact ⟨0, Nat.zero_le _, rfl, c1, HP0⟩
  case round =>
    obtain ⟨k, hk, rfl, d1, HP⟩ := hrel
    clear HP0 c0 c1
    by_cases hlt : k < N
    · have hcall := Lib.hid (isModel_any xss hcc.out hl A cap k (Nat.lt_of_lt_of_le hlt (Nat.le_trans hp (by decide))) wr (hcls.out k wr HP.out))
      cases hq : modT xss k
      · rw [hq] at hcall
        go_wp2_with fail
        refine hcall.out.mono ?_
        rintro e w1 ⟨rfl, hb1⟩
        have HP2 := Lib.hid (hnot.out k w1 hq (hgrow.out k wr w1 HP.out hb1))
        have d2 := ((bcell hb1).1 _ _ (World.block_lt_of_cell? _ _ d1)).trans d1
        clear hcall hb1 HP d1
        go_wp2_with fail
        go_roundw
        case rel => exact ⟨k + 1, by omega, by go_num, d2, HP2⟩
        case measure => simp [intOf]; omega
      · rw [hq] at hcall
        go_wp2_with fail
        refine hcall.out.mono ?_
        rintro e w1 ⟨rfl, hb1⟩
        have hst := Lib.hid (hstep.out k w1 hlt hq (hgrow.out k wr w1 HP.out hb1))
        have d2 := ((bcell hb1).1 _ _ (World.block_lt_of_cell? _ _ d1)).trans d1
        clear hcall hb1 HP d1
        go_wp2_with fail
        refine hst.out.mono ?_
        rintro e w2 ⟨q, rfl, hch, hP2⟩
        have d3 := (World.cell?_of_block (a := ⟨w.heap.size, 1, none⟩) (hch.block _ (World.block_lt_of_cell? _ _ d2) hFF.out)).trans d2
        cases q
        · replace hP2 := Lib.hid hP2
          clear hst hch d2
          go_wp2_with fail
          have hP3 : P N w2 := hP2.out
          exact bodyPost_ret (v := .tuple #[]) (by simp [results, Try.results43, go_sem]) rfl ⟨rfl, hP3⟩
        · have HP2 : Hid (P (k + 1) w2) := hP2
          clear hst hch d2 hP2
          go_wp2_with fail
          go_roundw
          case rel => exact ⟨k + 1, by omega, by go_num, d3, HP2⟩
          case measure => simp [intOf]; omega
    · obtain rfl : k = N := by omega
      go_wp2_with fail
      exact bodyPost_end (v := .tuple #[]) (by simp [results, Try.results43, go_sem]) rfl ⟨rfl, HP.out⟩
end Go.Proofs.Ytkhopkonddgicaa

/- Contracts: satisfiable Cnfs, counts of models, in the program. -/
namespace Go.Proofs.Ytkhopkonddgicaa
open Go.RowKit

/-- From a row of rows to clauses that can be read. -/
theorem cls_row {wr : Bool} {w : World} {v : Value} {xss : List (List Int)} {F : List Nat} (h : (Ty.slice Ty.int).row wr w v xss F) : ∃ A c, v = .slice A xss.length c ∧ ClsAt w A xss := by
  obtain ⟨a, cap, rfl, _, _, h3⟩ := row_slices h
  refine ⟨a, cap, rfl, ⟨fun j hj => ?_⟩⟩
  rcases h3 with ⟨rfl, _⟩ | ⟨_, b, off, rfl, _, hc⟩
  · exact absurd hj (by simp)
  · obtain ⟨u, Fk, hu, hr, _⟩ := hc j hj
    obtain ⟨B, c, rfl, hI⟩ := ints_row hr
    exact ⟨b, off, B, c, rfl, hu.1, hI⟩
theorem lit_small {vars l : Int} (hv : 0 ≤ vars ∧ vars ≤ 12) (h : litB vars l = true) : l ≠ 0 ∧ -vars ≤ l ∧ l ≤ vars := by
  unfold litB inB at h
  rw [negV_small (by unfold I64; omega) (by omega)] at h
  simp only [Bool.and_eq_true, decide_eq_true_eq, bne_iff_ne] at h
  omega
theorem clause_parts {vars : Int} {c : List Int} (h : clauseB vars c = true) : (0 ≤ vars ∧ vars ≤ 12) ∧ (∀ l ∈ c, l ≠ 0 ∧ -vars ≤ l ∧ l ≤ vars) ∧ ∀ i (h : i + 1 < c.length), c[i].natAbs < c[i + 1].natAbs := by
  unfold clauseB inB cOkTo at h
  simp only [Bool.and_eq_true, decide_eq_true_eq, List.all_eq_true, List.mem_range] at h
  obtain ⟨hv, hc⟩ := h
  have hlit : ∀ i (hi : i < c.length), litB vars c[i] = true := fun i hi => by
    have := hc i hi
    unfold cOk at this
    rw [Bool.and_eq_true, List.getD_eq_getElem?_getD, List.getElem?_eq_getElem hi] at this
    exact this.1
  refine ⟨hv, fun l hl => ?_, fun i hi => ?_⟩
  · obtain ⟨i, hi, rfl⟩ := List.getElem_of_mem hl
    exact lit_small hv (hlit i hi)
  · have h1 := hc (i + 1) hi
    unfold cOk at h1
    rw [Bool.and_eq_true, Bool.or_eq_true] at h1
    have h2 := h1.2
    simp only [beq_iff_eq, Nat.add_eq_zero_iff, Nat.succ_ne_self, and_false, false_or, decide_eq_true_eq, Nat.add_sub_cancel] at h2
    rw [List.getD_eq_getElem?_getD, List.getD_eq_getElem?_getD, List.getElem?_eq_getElem hi, List.getElem?_eq_getElem (by omega)] at h2
    simp only [Option.getD_some] at h2
    have a1 := lit_small hv (hlit i (by omega))
    have a2 := lit_small hv (hlit (i + 1) hi)
    rw [absV_lit ⟨a1.1, by omega, by omega⟩, absV_lit ⟨a2.1, by omega, by omega⟩] at h2
    omega
theorem clause_rising {vars : Int} {c : List Int} (h : clauseB vars c = true) : c.Pairwise (fun a b => a.natAbs < b.natAbs) := by
  have h3 := (clause_parts h).2.2
  clear h
  induction c with
  | nil => exact .nil
  | cons a c ih =>
    have hc := ih (fun i hi => by have := h3 (i + 1) (by simp; omega); simpa using this)
    refine List.pairwise_cons.2 ⟨fun b hb => ?_, hc⟩
    cases c with
    | nil => simp at hb
    | cons d c =>
      have h0 := h3 0 (by simp)
      simp only [List.getElem_cons_zero, List.getElem_cons_succ] at h0
      rcases List.mem_cons.1 hb with rfl | hb
      · exact h0
      · exact Nat.lt_trans h0 ((List.pairwise_cons.1 hc).1 b hb)
theorem rising_len {m : Nat} : ∀ {c : List Int} {k : Nat}, c.Pairwise (fun a b => a.natAbs < b.natAbs) → (∀ l ∈ c, k ≤ l.natAbs ∧ l.natAbs < k + m) → c.length ≤ m
  | [], _, _, _ => by simp
  | a :: c, k, hp, hb => by
    have ha := hb a (by simp)
    have hp' := List.pairwise_cons.1 hp
    have := rising_len (m := m - (a.natAbs - k) - 1) (k := a.natAbs + 1) hp'.2 (fun l hl => by have := hp'.1 l hl; have := hb l (by simp [hl]); omega)
    simp only [List.length_cons]
    omega
theorem clause_s {vars : Int} {c : List Int} (h : clauseB vars c = true) : ClS c := by
  have hp := clause_parts h
  refine ⟨fun l hl => ?_, ?_⟩
  · have := hp.2.1 l hl
    exact ⟨this.1, by omega, by omega⟩
  · have := rising_len (m := 12) (k := 1) (clause_rising h) (fun l hl => by have := hp.2.1 l hl; omega)
    omega
theorem good_cnf {vars : Int} {xss : List (List Int)} (h : goodB vars xss = true) : (0 ≤ vars ∧ vars ≤ 12) ∧ xss.length ≤ 60 ∧ (∀ c ∈ xss, clauseB vars c = true) ∧ ∀ c ∈ xss, ClS c := by
  unfold goodB inB at h
  simp only [Bool.and_eq_true, decide_eq_true_eq, List.all_eq_true] at h
  exact ⟨h.1.1, h.1.2, h.2, fun c hc => clause_s (h.2 c hc)⟩

/- left out: the seat has no impl.satisfiable -/

/- left out: the seat has no impl.IsSatisfiable -/
end Go.Proofs.Ytkhopkonddgicaa

/- Contracts: clauses and Cnfs at bits, in the reference. -/
namespace Go.Proofs.Ytkhopkonddgicaa
open Go.RowKit

theorem cl_next {c : List Int} {k : Nat} (hk : k < c.length) (b : Nat) : clT (c.take (k + 1)) b = (clT (c.take k) b || litT b c[k]) := by
  unfold clT
  rw [List.take_succ_eq_append_getElem hk, List.any_append]
  simp
theorem cl_take {c : List Int} {k b : Nat} (h : clT (c.take k) b = true) : clT c b = true := by
  unfold clT at *
  rw [List.any_eq_true] at *
  obtain ⟨x, hx, h⟩ := h
  exact ⟨x, List.mem_of_mem_take hx, h⟩
theorem md_next {xss : List (List Int)} {j : Nat} (hj : j < xss.length) (b : Nat) : modT (xss.take (j + 1)) b = (modT (xss.take j) b && clT xss[j] b) := by
  unfold modT
  rw [List.take_succ_eq_append_getElem hj, List.all_append]
  simp
theorem md_take {xss : List (List Int)} {j b : Nat} (h : modT (xss.take j) b = false) : modT xss b = false := by
  unfold modT at *
  rw [List.all_eq_false] at *
  obtain ⟨x, hx, h⟩ := h
  exact ⟨x, List.mem_of_mem_take hx, h⟩

/- left out: the seat has no spec.l5True -/

/- left out: the seat has no spec.l5All -/
end Go.Proofs.Ytkhopkonddgicaa

/- Contracts: models that are counted and the least one, in the reference. -/
namespace Go.Proofs.Ytkhopkonddgicaa
open Go.RowKit

def cntP (p : Nat → Bool) (k : Nat) : Nat := ((List.range k).filter p).length
theorem cntP_no {p : Nat → Bool} {k : Nat} (h : p k = false) : cntP p (k + 1) = cntP p k := by simp [cntP, List.range_succ, List.filter_append, h]
theorem cntP_yes {p : Nat → Bool} {k : Nat} (h : p k = true) : cntP p (k + 1) = cntP p k + 1 := by simp [cntP, List.range_succ, List.filter_append, h]
theorem cntP_le (p : Nat → Bool) (k : Nat) : cntP p k ≤ k := Nat.le_trans (List.length_filter_le _ _) (by simp)

/- left out: the seat has no spec.l5Models -/
end Go.Proofs.Ytkhopkonddgicaa

/- Contracts: how many bits make a circuit true, circuits of the same values, the value of a circuit. -/
namespace Go.Proofs.Ytkhopkonddgicaa
open Go.RowKit

/-- What is known of a valid circuit. -/
theorem circ_parts {n : Nat} {gs : List Gt} (h : circB n gs = true) : n ≤ 12 ∧ 0 < gs.length ∧ gs.length ≤ 200 ∧ OkG n gs := by
  unfold circB at h
  rw [Bool.and_eq_true, Bool.and_eq_true, inB_iff, inB_iff, gsB_ok] at h
  exact ⟨by omega, by omega, by omega, h.1.1⟩
theorem circ_of {n : Nat} {gs : List Gt} (hn : n ≤ 12) (h0 : 0 < gs.length) (h1 : gs.length ≤ 200) (h : OkG n gs) : circB n gs = true := by
  unfold circB
  rw [gsB_ok.2 h, inB_iff.2 ⟨by omega, by omega⟩, inB_iff.2 ⟨by omega, by omega⟩]; rfl
theorem valueG {n : Nat} {gs : List Gt} (h : circB n gs = true) (A : Option Addr) (c b : Nat) (hb : b < 4096) (w : World) (hx : GtAt w A gs) :
    Calls Try.prog 42 #[.slice A gs.length c, .int .i64 b] w fun e w' => e = .returned (.bool (cval gs b)) ∧ Below w.heap.size w w' := by
  obtain ⟨_, h0, h1, h2⟩ := circ_parts h
  exact circuitValue_any b A c gs w hx h2 (by omega) h0 (Nat.lt_trans hb (by decide))

set_option maxRecDepth 100000 in
set_option maxHeartbeats 4000000 in
theorem countTrue_any (n : Nat) (A : Option Addr) (c : Nat) (gs : List Gt) (w : World) (hg : circB n gs = true) (hx : GtAt w A gs) :
    Calls Try.prog 11 #[.int .i64 n, .slice A gs.length c] w fun e w' => e = .returned (.tuple #[.int .i64 (cntP (cval gs) (2 ^ n)), .bool true]) ∧ Below w.heap.size w w' := by
  have hp0 := circ_parts hg
  have hn12 : n ≤ 12 := hp0.1
  obtain ⟨hsh, hp⟩ := pow12 hn12
  have hcall0 := isCircuit_any n A c gs w hx (by omega)
  rw [hg] at hcall0
  replace hcall0 := Lib.hid hcall0
  have hcall := Lib.hid (fun b (hb : b < 4096) W (h : Below w.heap.size w W) => valueG hg A c b hb W (hx.grow h))
  have hcl := Lib.hid (cntP_le (cval gs))
  have hz : Hid ((cntP (cval gs) 0) = 0) := rfl
  have hno := Lib.hid (fun k => cntP_no (p := cval gs) (k := k))
  have hyes := Lib.hid (fun k => cntP_yes (p := cval gs) (k := k))
  generalize cval gs = P at *
  obtain ⟨N, hN⟩ : ∃ N, 2 ^ n = N := ⟨_, rfl⟩
  rw [hN] at hsh hp ⊢
  have hn0 : (0 : Int) ≤ n := by omega
  clear hx hN hp0 hg
  go_enter Try.func11, Try.ntmps11
  go_wp2_with fail
  refine hcall0.out.mono ?_
  rintro e w1 ⟨rfl, hb1⟩
  replace hb1 := Lib.hid hb1
  clear hcall0
  go_wp2_with fail
  try rw [hsh]
  go_loopw [6, 14] (fun vc i wr => ∃ (k x : Nat), k ≤ N ∧ i = .int .i64 k ∧ vc = .int .i64 x ∧ Hid (cntP P k = x) ∧ Hid (Below w.heap.size w wr)) (fun _ i _ => N - (intOf i).toNat)
  case atStart => exact ⟨0, 0, Nat.zero_le _, rfl, rfl, hz, hb1⟩
  case round =>
    obtain ⟨k, x, hk, rfl, rfl, hxx, HB⟩ := hrel
    have hxl : x ≤ 4096 := by have := hcl.out k; rw [hxx.out] at this; omega
    by_cases hlt : k < N
    · have hc := Lib.hid (hcall.out k (by omega) wr HB.out)
      have h1 := Lib.hid (hno.out k)
      have h2 := Lib.hid (hyes.out k)
      obtain ⟨q, hq⟩ : ∃ q, P k = q := ⟨_, rfl⟩
      rw [hq] at hc h1 h2
      clear hq
      go_wp2_with fail
      refine hc.out.mono ?_
      rintro e w2 ⟨rfl, hb2⟩
      have HB2 := Lib.hid (btr HB.out hb2)
      clear HB hb2 hc
      cases q
      · have h3 : Hid (cntP P (k + 1) = x) := by unfold Hid; rw [h1.out rfl]; exact hxx.out
        clear h1 h2 hxx
        go_wp2_with fail
        go_roundw
        case rel => exact ⟨k + 1, x, by omega, by go_num, rfl, h3, HB2⟩
        case measure => simp [intOf]; omega
      · have h3 : Hid (cntP P (k + 1) = x + 1) := by unfold Hid; rw [h2.out rfl, hxx.out]
        have hxi : IntKind.i64.wrap ((x : Int) + 1) = ((x + 1 : Nat) : Int) := by rw [IntWalk.i64_in _ (by omega)]; omega
        clear h1 h2 hxx
        go_wp2_with fail
        go_roundw
        case rel => exact ⟨k + 1, x + 1, by omega, by go_num, by first | rfl | go_num, h3, HB2⟩
        case measure => simp [intOf]; omega
    · obtain rfl : k = N := by omega
      clear hno hyes hcl hcall
      go_wp2_with fail
      go_ret2
      exact ⟨by rw [hxx.out]; try rfl, HB.out⟩

set_option maxRecDepth 100000 in
set_option maxHeartbeats 4000000 in
theorem firstDiff_any (n : Nat) (A A' : Option Addr) (c c' : Nat) (gs hs : List Gt) (w : World) (hg : circB n gs = true) (hh : circB n hs = true) (hx : GtAt w A gs) (hy : GtAt w A' hs) (hsame : ∀ b, b < 2 ^ n → cval gs b = cval hs b) :
    Calls Try.prog 49 #[.int .i64 n, .slice A gs.length c, .slice A' hs.length c'] w fun e w' => e = .returned (.int .i64 (-1)) ∧ Below w.heap.size w w' := by
  have hp0 := circ_parts hg
  have hn12 : n ≤ 12 := hp0.1
  obtain ⟨hsh, hp⟩ := pow12 hn12
  have hcall := Lib.hid (fun b (hb : b < 4096) W (h : Below w.heap.size w W) => valueG hg A c b hb W (hx.grow h))
  have hcall2 := Lib.hid (fun b (hb : b < 4096) W (h : Below w.heap.size w W) => valueG hh A' c' b hb W (hy.grow h))
  replace hsame := Lib.hid hsame
  generalize cval gs = P at *
  generalize cval hs = Q at *
  generalize 2 ^ n = N at *
  have hn0 : (0 : Int) ≤ n := by omega
  have hB0 : Hid (Below w.heap.size w w) := Lib.hid (bb w)
  clear hx hy hp0 hg hh
  go_enter Try.func49, Try.ntmps49
  go_wp2_with fail
  try rw [hsh]
  go_loopw [10] (fun i wr => ∃ k : Nat, k ≤ N ∧ i = .int .i64 k ∧ Hid (Below w.heap.size w wr)) (fun i _ => N - (intOf i).toNat)
  case atStart => exact ⟨0, Nat.zero_le _, rfl, hB0⟩
  case round =>
    obtain ⟨k, hk, rfl, HB⟩ := hrel
    by_cases hlt : k < N
    · have hc := Lib.hid (hcall.out k (by omega) wr HB.out)
      have hc2 := Lib.hid (fun W h => hcall2.out k (by omega) W h)
      rw [hsame.out k hlt] at hc
      obtain ⟨q, hq⟩ : ∃ q, Q k = q := ⟨_, rfl⟩
      rw [hq] at hc hc2
      clear hq
      go_wp2_with fail
      refine hc.out.mono ?_
      rintro e w2 ⟨rfl, hb2⟩
      have HB2 := Lib.hid (btr HB.out hb2)
      clear HB hb2 hc
      go_wp2_with fail
      refine (hc2.out _ HB2.out).mono ?_
      rintro e w3 ⟨rfl, hb3⟩
      have HB3 := Lib.hid (btr HB2.out hb3)
      clear HB2 hb3 hc2
      cases q
      all_goals
        go_wp2_with fail
        go_roundw
        case rel => exact ⟨k + 1, by omega, by go_num, HB3⟩
        case measure => simp [intOf]; omega
    · obtain rfl : k = N := by omega
      go_wp2_with fail
      go_ret
      exact ⟨rfl, HB.out⟩

set_option maxHeartbeats 2000000 in
theorem sameValues_any (n : Nat) (A A' : Option Addr) (c c' : Nat) (gs hs : List Gt) (w : World) (hg : circB n gs = true) (hh : circB n hs = true) (hx : GtAt w A gs) (hy : GtAt w A' hs) (hsame : ∀ b, b < 2 ^ n → cval gs b = cval hs b) :
    Calls Try.prog 16 #[.int .i64 n, .slice A gs.length c, .slice A' hs.length c'] w fun e w' => e = .returned (.tuple #[.bool true, .bool true]) ∧ Below w.heap.size w w' := by
  have h1 := isCircuit_any n A c gs w hx (by have := circ_parts hg; omega)
  have h2 := fun W (h : Below w.heap.size w W) => isCircuit_any n A' c' hs W (hy.grow h) (by have := circ_parts hh; omega)
  have h3 := Lib.hid (fun W (h : Below w.heap.size w W) => firstDiff_any n A A' c c' gs hs W hg hh (hx.grow h) (hy.grow h) hsame)
  rw [hg] at h1
  rw [hh] at h2
  replace h1 := Lib.hid h1
  replace h2 := Lib.hid h2
  clear hx hy hsame hg hh
  go_enter Try.func16, Try.ntmps16
  go_wp2_with fail
  refine h1.out.mono ?_
  rintro e w1 ⟨rfl, hb1⟩
  go_wp2_with fail
  refine (h2.out _ hb1).mono ?_
  rintro e w2 ⟨rfl, hb2⟩
  have hB2 := btr hb1 hb2
  go_wp2_with fail
  refine (h3.out _ hB2).mono ?_
  rintro e w3 ⟨rfl, hb3⟩
  have hB3 := btr hB2 hb3
  go_wp2_with fail
  go_ret2
  exact ⟨rfl, hB3⟩

set_option maxRecDepth 100000 in
set_option maxHeartbeats 1000000 in
theorem bitsOkG (n : Nat) (hn : n ≤ 12) (m : Nat) (hm : m < 2 ^ n) (w : World) : Calls Try.prog 45 #[.int .i64 n, .int .i64 m] w fun e w' => e = .returned (.bool true) ∧ Below w.heap.size w w' := by
  obtain ⟨hsh, hp⟩ := pow12 hn
  have hN1 : 1 ≤ 2 ^ n := Nat.one_le_two_pow
  have hin : inB (m : Int) 0 (((2 ^ n : Nat) : Int) - 1) = true := inB_iff.2 ⟨by omega, by omega⟩
  have hn0 : (0 : Int) ≤ n := by omega
  generalize 2 ^ n = N at *
  have hw1 : IntKind.i64.wrap ((N : Int) - 1) = (N : Int) - 1 := IntWalk.i64_in _ (by omega)
  go_enter Try.func45, Try.ntmps45
  go_wp2_with fail
  try rw [hsh]
  try rw [hw1]
  refine (withinG hin _).mono ?_
  rintro e w1 ⟨rfl, hb1⟩
  go_wp2_with fail
  go_ret
  exact ⟨rfl, hb1⟩

set_option maxHeartbeats 2000000 in
theorem circuitValueM_any (n b : Nat) (A : Option Addr) (c : Nat) (gs : List Gt) (w : World) (hg : circB n gs = true) (hx : GtAt w A gs) (hb : b < 2 ^ n) :
    Calls Try.prog 13 #[.int .i64 n, .slice A gs.length c, .int .i64 b] w fun e w' => e = .returned (.tuple #[.bool (cval gs b), .bool true]) ∧ Below w.heap.size w w' := by
  have hp0 := circ_parts hg
  obtain ⟨-, hp⟩ := pow12 hp0.1
  have h1 := isCircuit_any n A c gs w hx (by omega)
  rw [hg] at h1
  replace h1 := Lib.hid h1
  have h2 := Lib.hid (fun W => bitsOkG n hp0.1 b hb W)
  have h3 := Lib.hid (fun W (h : Below w.heap.size w W) => valueG hg A c b (by omega) W (hx.grow h))
  generalize cval gs b = q at *
  clear hx hg hp0 hb hp
  go_enter Try.func13, Try.ntmps13
  go_wp2_with fail
  refine h1.out.mono ?_
  rintro e w1 ⟨rfl, hb1⟩
  go_wp2_with fail
  refine (h2.out _).mono ?_
  rintro e w2 ⟨rfl, hb2⟩
  have hB2 := btr hb1 hb2
  go_wp2_with fail
  refine (h3.out _ hB2).mono ?_
  rintro e w3 ⟨rfl, hb3⟩
  have hB3 := btr hB2 hb3
  go_wp2_with fail
  go_ret2
  exact ⟨rfl, hB3⟩
end Go.Proofs.Ytkhopkonddgicaa

/- Contract: the gates that a gate asks. -/
namespace Go.Proofs.Ytkhopkonddgicaa
open Go.RowKit

/-- Numbers as they lie in memory. -/
def natI (l : List Nat) : List Int := l.map (fun (k : Nat) => (k : Int))
theorem natI_len (l : List Nat) : (natI l).length = l.length := by simp [natI]
set_option maxRecDepth 100000 in
set_option maxHeartbeats 8000000 in
theorem inputs_any (g : Gt) (ha : 0 ≤ g.a ∧ g.a ≤ 1000000) (hb : 0 ≤ g.b ∧ g.b ≤ 1000000) (w : World) :
    Calls Try.prog 96 #[gtV g] w fun e w' => ∃ A c, e = .returned (.slice A (insG g).length c) ∧ IntsAt w' A (natI (insG g)) ∧ Below w.heap.size w w' := by
  obtain ⟨k, a', b'⟩ := g
  dsimp only at ha hb
  obtain ⟨a, rfl⟩ : ∃ a : Nat, a' = a := ⟨a'.toNat, by omega⟩
  obtain ⟨b, rfl⟩ : ∃ b : Nat, b' = b := ⟨b'.toNat, by omega⟩
  have hB0 := Lib.hid (bal (bb w) (.cells #[.int .i64 k, .int .i64 (a : Int), .int .i64 (b : Int)] 41))
  by_cases h4 : k = 4
  · subst h4
    have hM : insG ⟨4, (a : Int), (b : Int)⟩ = [a] := by simp [insG]
    rw [hM]
    have S1 := ((Sp.start w).alloc_box #[.int .i64 4, .int .i64 (a : Int), .int .i64 (b : Int)] 41).alloc_box #[.int .i64 (a : Int)] 3
    simp only [World.size_alloc] at S1
    have k0 := S1.cell (i := 0) rfl (o := 0) rfl
    have hB1 := S1.below
    clear S1 hM
    go_enter Try.func96, Try.ntmps96
    go_wp2_with fail
    go_ret
    refine ⟨_, _, rfl, ⟨fun j hj => ⟨_, 0, rfl, ?_⟩, fun c hc => ?_⟩, hB1⟩
    · obtain rfl : j = 0 := by simp [natI] at hj; omega
      exact k0
    · simp [natI] at hc; subst hc; unfold I64; omega
  by_cases h5 : k = 5 ∨ k = 6
  · have hM : insG ⟨k, (a : Int), (b : Int)⟩ = [a, b] := by simp [insG, h4, h5]
    rw [hM]
    have S1 := ((Sp.start w).alloc_box #[.int .i64 k, .int .i64 (a : Int), .int .i64 (b : Int)] 41).alloc_box #[.int .i64 (a : Int), .int .i64 (b : Int)] 3
    simp only [World.size_alloc] at S1
    have k0 := S1.cell (i := 0) rfl (o := 0) rfl
    have k1 := S1.cell (i := 0) rfl (o := 1) rfl
    have hB1 := S1.below
    clear S1 hM h4
    rcases h5 with rfl | rfl
    all_goals
      go_enter Try.func96, Try.ntmps96
      go_wp2_with fail
      go_ret
      refine ⟨_, _, rfl, ⟨fun j hj => ⟨_, 0, rfl, ?_⟩, fun c hc => ?_⟩, hB1⟩
      · have : j = 0 ∨ j = 1 := by simp [natI] at hj; omega
        rcases this with rfl | rfl
        · exact k0
        · exact k1
      · simp [natI] at hc; rcases hc with rfl | rfl <;> unfold I64 <;> omega
  · have hM : insG ⟨k, (a : Int), (b : Int)⟩ = [] := by simp [insG, h4, h5]
    have h5' : k ≠ 5 := fun e => h5 (.inl e)
    have h6' : k ≠ 6 := fun e => h5 (.inr e)
    rw [hM]
    clear hM h5
    go_enter Try.func96, Try.ntmps96
    go_wp2_with fail
    go_ret
    exact ⟨_, _, rfl, .nil _ _, hB0.out⟩
end Go.Proofs.Ytkhopkonddgicaa

/- Plain facts: which gates are needed, as the program finds them. No program in sight. -/
namespace Go.Proofs.Ytkhopkonddgicaa

/-- One gate is looked at: where it is needed, so are those that it asks. -/
def needStep (gs : List Gt) (s : (Nat → Bool) × List Nat) (i : Nat) : (Nat → Bool) × List Nat :=
  if s.1 i then (fun j => s.1 j || decide (j ∈ insG (gs.getD i ⟨0, 0, 0⟩)), s.2 ++ [i]) else s
def needF (gs : List Gt) (pre : List Nat) : (Nat → Bool) × List Nat := pre.foldl (needStep gs) (fun j => decide (j = gs.length - 1), [])
theorem needF_snoc (gs : List Gt) (pre : List Nat) (i : Nat) : needF gs (pre ++ [i]) = needStep gs (needF gs pre) i := by simp [needF]
theorem needF_len (gs : List Gt) (pre : List Nat) : (needF gs pre).2.length ≤ pre.length := by
  induction pre using snoc_ind with
  | h0 => simp [needF]
  | h1 l a ih =>
    rw [needF_snoc]
    unfold needStep
    split
    · simp; omega
    · simp; omega
/-- The numbers from the last one down. -/
def downN : Nat → List Nat
  | 0 => []
  | n + 1 => n :: downN n
def needL (gs : List Gt) : List Nat := (needF gs (downN gs.length)).2.reverse
structure NInv (gs : List Gt) (m : Nat) (s : (Nat → Bool) × List Nat) : Prop where
  asc : s.2.Pairwise (· > ·)
  mem : ∀ i, i ∈ s.2 ↔ m ≤ i ∧ s.1 i = true
  lt : ∀ j, s.1 j = true → j < gs.length
  ins : ∀ i ∈ s.2, ∀ k ∈ insG (gs.getD i ⟨0, 0, 0⟩), s.1 k = true
  top : s.1 (gs.length - 1) = true
  head : m < gs.length → s.2.head? = some (gs.length - 1)
theorem NInv.step {vars : Int} {gs : List Gt} {m : Nat} {s : (Nat → Bool) × List Nat} (hg : OkG vars gs) (hm : m < gs.length) (h : NInv gs (m + 1) s) : NInv gs m (needStep gs s m) := by
  have hd : gs.getD m ⟨0, 0, 0⟩ = gs[m] := by rw [List.getD_eq_getElem?_getD, List.getElem?_eq_getElem hm]; rfl
  have hlt : ∀ k ∈ insG (gs.getD m ⟨0, 0, 0⟩), k < m := by rw [hd]; exact ins_lt (hg m hm)
  unfold needStep
  cases hs : s.1 m
  · rw [if_neg (by simp)]
    refine ⟨h.asc, fun i => ?_, h.lt, h.ins, h.top, fun h2 => ?_⟩
    · rw [h.mem]
      constructor
      · rintro ⟨h1, h2⟩; exact ⟨by omega, h2⟩
      · rintro ⟨h1, h2⟩
        refine ⟨?_, h2⟩
        rcases Nat.lt_or_ge m i with h3 | h3
        · exact h3
        · obtain rfl : i = m := by omega
          rw [hs] at h2; exact absurd h2 (by decide)
    · rcases Nat.lt_or_ge (m + 1) gs.length with h3 | h3
      · exact h.head h3
      · obtain e : gs.length - 1 = m := by omega
        have := h.top
        rw [e, hs] at this; exact absurd this (by decide)
  · rw [if_pos rfl]
    refine ⟨?_, fun i => ?_, fun j hj => ?_, fun i hi k hk => ?_, ?_, fun h2 => ?_⟩
    · rw [List.pairwise_append]
      refine ⟨h.asc, List.pairwise_singleton _ _, fun a ha b hb => ?_⟩
      rw [List.mem_singleton] at hb
      have := ((h.mem a).1 ha).1
      omega
    · simp only [List.mem_append, List.mem_singleton, Bool.or_eq_true, decide_eq_true_eq]
      rw [h.mem]
      constructor
      · rintro (⟨h1, h2⟩ | rfl)
        · exact ⟨by omega, .inl h2⟩
        · exact ⟨Nat.le_refl _, .inl hs⟩
      · rintro ⟨h1, h2 | h2⟩
        · rcases Nat.lt_or_ge m i with h3 | h3
          · exact .inl ⟨h3, h2⟩
          · exact .inr (by omega)
        · have := hlt i h2; omega
    · simp only [Bool.or_eq_true, decide_eq_true_eq] at hj
      rcases hj with hj | hj
      · exact h.lt j hj
      · have := hlt j hj; omega
    · simp only [Bool.or_eq_true, decide_eq_true_eq]
      rcases List.mem_append.1 hi with hi | hi
      · exact .inl (h.ins i hi k hk)
      · rw [List.mem_singleton] at hi
        subst hi
        exact .inr hk
    · simp only [Bool.or_eq_true]; exact .inl h.top
    · rcases Nat.lt_or_ge (m + 1) gs.length with h3 | h3
      · have := h.head h3
        rw [List.head?_append, this]; rfl
      · obtain e : gs.length - 1 = m := by omega
        have hnil : s.2 = [] := by
          rw [List.eq_nil_iff_forall_not_mem]
          intro i hi
          have h5 := (h.mem i).1 hi
          have h6 := h.lt i h5.2
          omega
        rw [hnil, e]; rfl
theorem ninv_all {vars : Int} {gs : List Gt} (hg : OkG vars gs) : ∀ m s, m ≤ gs.length → NInv gs m s → NInv gs 0 ((downN m).foldl (needStep gs) s)
  | 0, _, _, h => h
  | m + 1, s, hm, h => ninv_all hg m (needStep gs s m) (by omega) (h.step hg (by omega))
theorem need_inv {vars : Int} {gs : List Gt} (hg : OkG vars gs) (hp : 0 < gs.length) : NInv gs 0 (needF gs (downN gs.length)) := by
  refine ninv_all hg gs.length _ (Nat.le_refl _) ⟨List.Pairwise.nil, fun i => ?_, fun j hj => ?_, fun i hi => ?_, by simp, fun h => absurd h (Nat.lt_irrefl _)⟩
  · simp only [List.not_mem_nil, decide_eq_true_eq, false_iff]; omega
  · simp only [decide_eq_true_eq] at hj; omega
  · exact absurd hi (by simp)
theorem need_needs {vars : Int} {gs : List Gt} (hg : OkG vars gs) (hp : 0 < gs.length) : Needs gs (needL gs) ∧ (needL gs).getLast? = some (gs.length - 1) := by
  have h := need_inv hg hp
  unfold needL
  refine ⟨⟨?_, fun i hi => ?_, fun i hi k hk => ?_⟩, ?_⟩
  · rw [List.pairwise_reverse]; exact h.asc
  · rw [List.mem_reverse] at hi
    exact h.lt i ((h.mem i).1 hi).2
  · rw [List.mem_reverse] at hi ⊢
    exact (h.mem k).2 ⟨Nat.zero_le _, h.ins i hi k hk⟩
  · rw [List.getLast?_reverse]; exact h.head hp
end Go.Proofs.Ytkhopkonddgicaa

/- Contract: slices.Backward over gates, as an iterator. -/
namespace Go.Proofs.Ytkhopkonddgicaa
open Go.RowKit Go.Shelf

attribute [local go_sem] Oper.semAt_some

/-- What has come when c rounds are over. -/
def comeF (n : Nat) : Nat → List (Fin n)
  | 0 => []
  | c + 1 => if h : c < n then comeF n c ++ [⟨n - 1 - c, by omega⟩] else comeF n c
theorem comeF_succ {n c : Nat} (h : c < n) : comeF n (c + 1) = comeF n c ++ [⟨n - 1 - c, by omega⟩] := by rw [comeF, dif_pos h]
theorem comeF_len {n : Nat} : ∀ c, c ≤ n → (comeF n c).length = c
  | 0, _ => rfl
  | c + 1, h => by rw [comeF_succ (by omega), List.length_append, comeF_len c (by omega)]; rfl
theorem comeF_down {n : Nat} : ∀ c, c ≤ n → (comeF n c).map Fin.val ++ downN (n - c) = downN n
  | 0, _ => rfl
  | c + 1, h => by
    rw [comeF_succ (by omega), List.map_append, List.append_assoc]
    have h1 := comeF_down (n := n) c (by omega)
    rw [show n - c = (n - (c + 1)) + 1 by omega, downN] at h1
    rw [← h1]
    simp only [List.map_cons, List.map_nil, List.singleton_append]
    rw [show n - 1 - c = n - (c + 1) by omega]
theorem comeF_all (n : Nat) : (comeF n n).map Fin.val = downN n := by
  have := comeF_down (n := n) n (Nat.le_refl _)
  rwa [Nat.sub_self, downN, List.append_nil] at this

/-- What a round must keep: what lay below, and the iterator's own box. -/
def KeepB (n₀ Bs : Nat) (W W' : World) : Prop := Below n₀ W W' ∧ W'.heap[Bs]? = W.heap[Bs]?
theorem keepB_t {n₀ Bs : Nat} {A B C : World} (h1 : KeepB n₀ Bs A B) (h2 : KeepB n₀ Bs B C) : KeepB n₀ Bs A C := ⟨h1.1.trans h2.1, h2.2.trans h1.2⟩
theorem KeepB.box {n₀ Bs : Nat} {W W' : World} (h : KeepB n₀ Bs W W') {v : Value} (hc : W.cell? ⟨Bs, 0, none⟩ = some v) : W'.cell? ⟨Bs, 0, none⟩ = some v :=
  (World.cell?_of_block (a := ⟨Bs, 0, none⟩) h.2).trans hc
/-- What the iterator hands on: a number and its gate. -/
def gtEncs (gs : List Gt) (i : Fin gs.length) : Array Value := #[.int .i64 (i.val : Int), gtV gs[i.val]]

set_option maxRecDepth 100000 in
set_option maxHeartbeats 4000000 in
theorem backward1_in (F : Fence) (n : Nat) (hF : F.fn 115) (hro : F.round = none) (hn : 1 ≤ n) (l Bs n₀ : Nat) (gs : List Gt) (A : Option Addr) (cap : Nat) (hl : gs.length ≤ 1000000)
    (hlow : ∀ a, A = some a → a.block < n₀) (J Jx : List (Fin gs.length) → World → Prop)
    (hY : ∀ pre x W, J pre W → pre.length < gs.length → YieldAt F (n - 1) Try.prog l (gtEncs gs x) W fun e W' =>
      (e = .returned (.bool true) ∧ J (pre ++ [x]) W' ∧ KeepB n₀ Bs W W') ∨ (e = .returned (.bool false) ∧ Jx (pre ++ [x]) W'))
    (W : World) (hBs : W.cell? ⟨Bs, 0, none⟩ = some (.slice A gs.length cap)) (hc : GtAt W A gs) (h0 : J [] W) :
    CallsIn F n Try.prog 115 #[.func (.yield l) #[] #[], .pointer (some ⟨Bs, 0, none⟩)] W fun e W' => (∃ v, e = .returned v) ∧
      ((∃ ys, ys = comeF gs.length gs.length ∧ J ys W') ∨ (∃ pre, True ∧ Jx pre W')) := by
  have hw0 : IntKind.i64.wrap ((gs.length : Int) - 1) = (gs.length : Int) - 1 := IntWalk.i64_in _ (by omega)
  refine callsIn_of_wp Try.func115 rfl hF ?_ hro
  simp only [Try.ntmps115, List.size_toArray, List.length_cons, List.length_nil, Nat.reduceAdd, Nat.reduceSub, Array.replicate_succ, Array.replicate_zero, List.push_toArray, List.append_toArray, List.nil_append, List.cons_append]
  gi_wp2
  gi_loopw [3] (fun i wr => ∃ (c : Nat) (z : Int), c ≤ gs.length ∧ i = .int .i64 z ∧ z = (gs.length : Int) - 1 - c ∧ J (comeF gs.length c) wr ∧ Below n₀ W wr ∧ wr.cell? ⟨Bs, 0, none⟩ = some (.slice A gs.length cap))
    (fun i _ => (intOf i + 1).toNat)
  case atStart => exact ⟨0, _, Nat.zero_le _, rfl, by omega, h0, Below.refl _ _, hBs⟩
  case round =>
    obtain ⟨c, z, hc2, rfl, hz, hJs, hnx, kb⟩ := hrel
    by_cases hlt : c < gs.length
    · obtain ⟨m, hm⟩ : ∃ m, gs.length - 1 - c = m := ⟨_, rfl⟩
      have hml : m < gs.length := by omega
      have hsucc : comeF gs.length (c + 1) = comeF gs.length c ++ [⟨m, hml⟩] := by subst hm; exact comeF_succ hlt
      obtain ⟨fn, tmps, assign, body, hy, hR⟩ := hY _ ⟨m, hml⟩ wr hJs (by rw [comeF_len c hc2]; exact hlt)
      obtain rfl : z = (m : Int) := by omega
      have hz0 : (0 : Int) ≤ (m : Int) := by omega
      have hzl : (m : Int) < gs.length := by omega
      have hw1 : IntKind.i64.wrap ((m : Int) - 1) = (m : Int) - 1 := IntWalk.i64_in _ (by omega)
      obtain ⟨b, off, rfl, m0, m1, m2⟩ := hc.at_ m hml
      have hb := hlow _ rfl
      have k0 := (hnx.cell (p := ⟨b, off + m * 3, none⟩) hb).trans m0
      have k1 := (hnx.cell (p := ⟨b, off + m * 3 + 1, none⟩) hb).trans m1
      have k2 := (hnx.cell (p := ⟨b, off + m * 3 + 2, none⟩) hb).trans m2
      unfold gtEncs at hy
      dsimp only at hy
      replace hsucc := Lib.hid hsucc
      replace hz := Lib.hid hz
      replace hm := Lib.hid hm
      clear m0 m1 m2
      generalize hgm : gs[m] = g at *
      obtain ⟨gk, ga, gb⟩ := g
      dsimp only at *
      clear hgm
      gi_wp2
      refine hR.mono ?_
      rintro e W3 (⟨rfl, hJ3, hk3⟩ | ⟨rfl, hJx3⟩)
      · gi_wp2
        go_roundw
        case rel => exact ⟨c + 1, _, by omega, rfl, by have := hz.out; omega, by rw [hsucc.out]; exact hJ3, hnx.trans hk3.1, hk3.box kb⟩
        case measure => simp [intOf]
      · gi_wp2
        refine bodyPost_ret (results_none rfl _ _ _) rfl ?_
        exact ⟨⟨_, rfl⟩, .inr ⟨_, trivial, hJx3⟩⟩
    · obtain rfl : c = gs.length := by omega
      have hz0 : ¬ (0 : Int) ≤ z := by omega
      gi_wp2
      go_end0
      first | exact ⟨⟨_, rfl⟩, .inl ⟨_, rfl, hJs⟩⟩ | exact ⟨⟨_, rfl⟩, .inl hJs⟩ | (refine ⟨⟨_, rfl⟩, ?_⟩; simp; exact .inl hJs)

set_option maxHeartbeats 1000000 in
/-- slices.Backward: the slice is boxed; the function value captures the box. -/
theorem backward_in (F : Fence) (n : Nat) (hF : F.fn 95) (hro : F.round = none) (a : Option Addr) (len cap : Nat) (w : World) :
    CallsIn F n Try.prog 95 #[.slice a len cap] w fun e w' => e = .returned (.func (.func 115) #[] #[.pointer (some ⟨w.heap.size, 0, none⟩)]) ∧ w' = w.alloc (.cells #[.slice a len cap] 28) := by
  refine callsIn_of_wp Try.func95 rfl hF ?_ hro
  simp only [Try.ntmps95, List.size_toArray, List.length_cons, List.length_nil, Nat.reduceAdd, Nat.reduceSub, Array.replicate_succ, Array.replicate_zero, List.push_toArray, List.append_toArray, List.nil_append, List.cons_append]
  gi_wp2
  go_ret
  exact ⟨rfl, rfl⟩

/-- What it hands back is an iterator: all gates, from the last one down. -/
theorem backward_stops (F : Fence) (n : Nat) (hF : F.fn 115) (hro : F.round = none) (hn : 1 ≤ n) (Bs n₀ : Nat) (gs : List Gt) (A : Option Addr) (cap : Nat) (hl : gs.length ≤ 1000000) (w : World)
    (hBs : Bs < w.heap.size) (hlow : ∀ a, A = some a → a.block < n₀) (hc : w.cell? ⟨Bs, 0, none⟩ = some (.slice A gs.length cap)) (hI : GtAt w A gs) :
    SeqStopsK F n Try.prog 115 #[.pointer (some ⟨Bs, 0, none⟩)] (gtEncs gs) (KeepB n₀ Bs) (fun ys => ys = comeF gs.length gs.length) (fun _ => True) gs.length w := fun l J Jx W hW _ _ hY h0 =>
  backward1_in F n hF hro hn l Bs n₀ gs A cap hl hlow J Jx hY W ((hW.cell (p := ⟨Bs, 0, none⟩) hBs).trans hc) (hI.grow hW) h0
end Go.Proofs.Ytkhopkonddgicaa

/- Memory in parts, within a range over a function: the parts abide the turn of a block that is no cells. -/
namespace Go.Proofs.Ytkhopkonddgicaa
open Go.RowKit

/-- The blocks of a part are cells. -/
def Cellish (q : Asn) : Prop := ∀ w F, q.p w F → ∀ b ∈ F, ∀ o, w.heap[b]? = some o → o.isCells = true
theorem cellish_box (b : Nat) (t : TypeId) (cs : Array Value) : Cellish (Box b t cs) := by
  rintro w F ⟨rfl, h⟩ b' hb o ho
  obtain rfl : b' = b := by simpa using hb
  rw [h] at ho; cases ho; rfl
theorem cellish_own (e : TypeId) (size : Nat) (v : Value) (n : Nat) (xs : List Value) : Cellish (Own e size v n xs) := by
  rintro w F ⟨rfl, -, ⟨rfl, -⟩ | ⟨g, cap, cur, rfl, -, hh, -⟩⟩ b hb o ho
  · simp [Value.ownBlock] at hb
  · obtain rfl : b = g := by simpa [Value.ownBlock] using hb
    rw [hh] at ho; cases ho; rfl
theorem sep_cellish {w : World} : ∀ {ps : List Asn} {F : List Nat}, sep ps w F → (∀ q ∈ ps, Cellish q) → ∀ b ∈ F, ∀ o, w.heap[b]? = some o → o.isCells = true
  | [], _, h, _ => by subst h; simp
  | q :: ps, _, h, hq => by
    obtain ⟨F1, F2, rfl, _, h1, h2⟩ := h
    intro b hb o ho
    rcases List.mem_append.1 hb with hb | hb
    · exact hq q (by simp) w F1 h1 b hb o ho
    · exact sep_cellish h2 (fun x hx => hq x (by simp [hx])) b hb o ho
theorem Sp.turn {w0 A B : World} {ps : List Asn} {row : Option Nat} (h : Sp w0 A ps) (hq : ∀ q ∈ ps, Cellish q) (hg : A.grownBy B row) (hr : ∀ r, row = some r → w0.heap.size ≤ r ∧ ∃ o : Obj, A.heap[r]? = some o ∧ o.isCells = false) : Sp w0 B ps := by
  obtain ⟨h1, F, h2, h3⟩ := h
  refine ⟨h1.grown hg h1.size (fun k e => by have := (hr k e).1; omega), F, sep_keep h2 fun b hb => hg.block b (sep_lt h2 b hb) (fun e => ?_), h3⟩
  obtain ⟨-, o, ho, hc⟩ := hr b e.symm
  have := sep_cellish h2 hq b hb o ho
  rw [hc] at this; exact absurd this (by decide)
/-- Parts that follow what has come are an invariant of a range over a function. -/
theorem sp_ownFrom {β : Type} {w0 : World} (B : Nat) (hB : w0.heap.size ≤ B) (I : β → World → Prop) (hI : ∀ s W, I s W → ∃ ps, Sp w0 W ps ∧ (∀ q ∈ ps, Cellish q) ∧ ∀ W', Sp w0 W' ps → I s W') : OwnFrom B I := by
  intro s W W' row hs hg hr
  obtain ⟨ps, h1, h2, h3⟩ := hI s W hs
  exact h3 W' (h1.turn h2 hg fun r e => ⟨Nat.le_trans hB (hr r e).1, (hr r e).2⟩)
theorem keepB_b {n₀ Bs : Nat} {w : World} (hn : n₀ ≤ w.heap.size) (hb : Bs < w.heap.size) (W : World) (l : Nat) (o o' : Obj) (hl : w.heap.size ≤ l) (h : W.heap[l]? = some o) (h1 : o.isCells = false) (h2 : o.isWalk = false) : KeepB n₀ Bs W (W.putObj l o') :=
  ⟨belowK_b hn W l o o' hl h h1 h2, World.putObj_heap_other (by omega)⟩
end Go.Proofs.Ytkhopkonddgicaa

/- Contracts: the least model, satisfiability and implied clauses, in the reference. -/
namespace Go.Proofs.Ytkhopkonddgicaa
open Go.RowKit

theorem first_at {p : Nat → Bool} {k N : Nat} (hk : k < N) (h0 : (List.range k).any p = false) (h1 : p k = true) : idxP p (List.range N) = (k : Int) := by
  unfold idxP
  have ha : (List.range N).any p = true := List.any_eq_true.2 ⟨k, List.mem_range.2 hk, h1⟩
  rw [if_pos ha]
  have hl : k < (List.range N).length := by simpa using hk
  have : (List.range N).findIdx p = k := (List.findIdx_eq hl).2 ⟨by simpa using h1, fun j hj => by
    rw [List.any_eq_false] at h0
    have := h0 j (List.mem_range.2 hj)
    simpa using this⟩
  rw [this]
theorem first_no {p : Nat → Bool} {N : Nat} (h0 : (List.range N).any p = false) : idxP p (List.range N) = -1 := by
  unfold idxP
  rw [if_neg (by rw [h0]; decide)]
theorem rany_next {p : Nat → Bool} {k : Nat} : (List.range (k + 1)).any p = ((List.range k).any p || p k) := by
  simp [List.range_succ, List.any_append]
theorem rany_yes {p : Nat → Bool} {k N : Nat} (hk : k < N) (h : p k = true) : (List.range N).any p = true := List.any_eq_true.2 ⟨k, List.mem_range.2 hk, h⟩

/- left out: the seat has no spec.l5First -/

/- left out: the seat has no spec.l5Sat -/

/- left out: the seat has no spec.l5Implies -/
end Go.Proofs.Ytkhopkonddgicaa
