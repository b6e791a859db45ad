/- Lemmas and contracts for a law, put together out of several texts: TrA ClB CnfB ClC TrB TrC TrD MdA MdB GtE GtJ GtK GtS GtZ. -/
import Derived.Test.YtkhopkonddgicaaMg2
import Derived.Test.YtkhopkonddgicaaMg1
import Derived.Shelf.Abstract
import Derived.Lib.RabinKarpLaws
import Derived.Lib.QuietBelow
import Derived.WalkKit
import Derived.Deep.RegionHeld3
import Derived.Deep.DeepCutAuto
import Derived.Laws.StructEq
/- Contracts: whether a list holds an element for which a function answers yes; truth of clauses at bits. -/
namespace Go.Proofs.Ytkhopkonddgicaa
open Go.RowKit

/-- Clauses that can be read. -/
structure ClsAt (w : World) (A : Option Addr) (xss : List (List Int)) : Prop where
  at_ : ∀ j (hj : j < xss.length), ∃ b off B c, A = some ⟨b, off, none⟩ ∧ w.cell? ⟨b, off + j, none⟩ = some (.slice B xss[j].length c) ∧ IntsAt w B xss[j]
theorem ClsAt.grow {w w' : World} {A : Option Addr} {xss : List (List Int)} (h : ClsAt w A xss) (hb : Below w.heap.size w w') : ClsAt w' A xss := by
  refine ⟨fun j hj => ?_⟩
  obtain ⟨b, off, B, c, e, h1, h2⟩ := h.at_ j hj
  exact ⟨b, off, B, c, e, (hb.cell (World.block_lt_of_cell? _ _ h1)).trans h1, h2.grow hb⟩
/-- A function of a clause, told by what it answers. -/
def FnS (R : List Int → Prop) (w0 : World) (g : FuncId) (cb : Array Value) (p : List Int → Bool) : Prop :=
  ∀ (xs : List Int) (A : Option Addr) (c : Nat) w, IntsAt w A xs → R xs → Below w0.heap.size w0 w → Calls Try.prog g (#[.slice A xs.length c] ++ cb) w fun e w' => e = .returned (.bool (p xs)) ∧ Below w.heap.size w w'
def idxP {α : Type} (p : α → Bool) (xs : List α) : Int := if xs.any p then (xs.findIdx p : Nat) else -1
theorem idxP_ge {α : Type} (p : α → Bool) (xs : List α) : decide (0 ≤ idxP p xs) = xs.any p := by
  unfold idxP
  cases h : xs.any p
  · rfl
  · simp
theorem idxP_here {α : Type} {p : α → Bool} {xs : List α} {k : Nat} (hk : k < xs.length) (h : (xs.take k).any p = false) (e : p xs[k] = true) : idxP p xs = k := by
  unfold idxP
  rw [if_pos (List.any_eq_true.2 ⟨xs[k], List.getElem_mem hk, e⟩)]
  have : xs.findIdx p = k := by
    rw [List.findIdx_eq hk]
    refine ⟨e, fun j hj => ?_⟩
    have h2 := List.any_eq_false.1 h xs[j] (by rw [List.mem_take_iff_getElem]; exact ⟨j, by omega, rfl⟩)
    simpa using h2
  rw [this]
theorem any_next {α : Type} {p : α → Bool} {xs : List α} {k : Nat} (hk : k < xs.length) (h : (xs.take k).any p = false) (e : p xs[k] = false) : (xs.take (k + 1)).any p = false := by
  rw [List.take_succ_eq_append_getElem hk, List.any_append, h]
  simp [e]
theorem idxP_none {α : Type} {p : α → Bool} {xs : List α} (h : (xs.take xs.length).any p = false) : idxP p xs = -1 := by
  unfold idxP
  rw [List.take_length] at h
  rw [h]; rfl

set_option maxRecDepth 100000 in
set_option maxHeartbeats 2000000 in
theorem indexFuncI_any {g : FuncId} {cb : Array Value} {p : Int → Bool} {R : Int → Prop} (eg : Enter1 g) (xs : List (Int)) (A : Option Addr) (c : Nat) (w : World) (hx : IntsAt w A xs) (hl : xs.length ≤ 1000000) (hR : ∀ x ∈ xs, R x) (hf : FnI R w g cb p) :
    Calls Try.prog 116 #[.slice A xs.length c, .func (.func g) #[] cb] w fun e w' => e = .returned (.int .i64 (idxP p xs)) ∧ Below w.heap.size w w' := by
  unfold Enter1 at eg
  have hN := Lib.hid hx
  replace hf := Lib.hid hf
  have hRR := Lib.hid hR
  have HB0 := Lib.hid (bb w)
  clear hx hR
  go_enter Try.func116, Try.ntmps116
  go_wp2_with fail
  go_loopw [5, 8] (fun _ i wr => ∃ k : Nat, k ≤ xs.length ∧ i = .int .i64 k ∧ Hid ((xs.take k).any p = false) ∧ Hid (Below w.heap.size w wr)) (fun _ i _ => xs.length - (intOf i).toNat)
  case atStart => exact ⟨0, Nat.zero_le _, rfl, rfl, HB0⟩
  case round =>
    obtain ⟨k, hk, rfl, HD, HB⟩ := hrel
    clear HB0
    by_cases hlt : k < xs.length
    · obtain ⟨b, off, rfl, m0⟩ := (hN.out.grow HB.out).at_ k hlt
      have hcall := Lib.hid (hf.out xs[k] wr (hRR.out _ (List.getElem_mem hlt)) HB.out)
      have hyes := Lib.hid (idxP_here hlt HD.out)
      have hno := Lib.hid (any_next hlt HD.out)
      generalize hq : p xs[k] = q at *
      clear hq
      cases q
      · have hD := Lib.hid (hno.out rfl)
        clear hyes hno HD
        go_wp2_with fail
        refine hcall.out.mono ?_
        rintro e w1 ⟨rfl, hb1⟩
        have HB2 := Lib.hid (btr HB.out hb1)
        clear hcall hb1 HB m0
        go_wp2_with fail
        go_roundw
        case rel => exact ⟨k + 1, by omega, by go_num, hD, HB2⟩
        case measure => simp [intOf]; omega
      · have hRes := Lib.hid (hyes.out rfl)
        clear hyes hno HD
        go_wp2_with fail
        refine hcall.out.mono ?_
        rintro e w1 ⟨rfl, hb1⟩
        have HB2 := Lib.hid (btr HB.out hb1)
        clear hcall hb1 HB m0
        go_wp2_with fail
        go_ret
        exact ⟨ret_int hRes.out.symm, HB2.out⟩
    · obtain rfl : k = xs.length := by omega
      have hRes := Lib.hid (idxP_none HD.out)
      go_wp2_with fail
      go_ret
      exact ⟨ret_int hRes.out.symm, HB.out⟩

theorem containsI_any {g : FuncId} {cb : Array Value} {p : Int → Bool} {R : Int → Prop} (eg : Enter1 g) (xs : List (Int)) (A : Option Addr) (c : Nat) (w : World) (hx : IntsAt w A xs) (hl : xs.length ≤ 1000000) (hR : ∀ x ∈ xs, R x) (hf : FnI R w g cb p) :
    Calls Try.prog 98 #[.slice A xs.length c, .func (.func g) #[] cb] w fun e w' => e = .returned (.bool (xs.any p)) ∧ Below w.heap.size w w' := by
  have hcall := Lib.hid (indexFuncI_any eg xs A c w hx hl hR hf)
  have hge := Lib.hid (idxP_ge p xs)
  generalize idxP p xs = i at *
  clear hx hf hR
  go_enter Try.func98, Try.ntmps98
  go_wp2_with fail
  refine hcall.out.mono ?_
  rintro e w1 ⟨rfl, hb1⟩
  clear hcall
  go_wp2_with fail
  go_ret
  exact ⟨ret_bool hge.out, hb1⟩

set_option maxRecDepth 100000 in
set_option maxHeartbeats 2000000 in
theorem indexFuncS_any {g : FuncId} {cb : Array Value} {p : List Int → Bool} {R : List Int → Prop} (eg : Enter1 g) (xs : List (List Int)) (A : Option Addr) (c : Nat) (w : World) (hx : ClsAt w A xs) (hl : xs.length ≤ 1000000) (hR : ∀ x ∈ xs, R x) (hf : FnS R w g cb p) :
    Calls Try.prog 111 #[.slice A xs.length c, .func (.func g) #[] cb] w fun e w' => e = .returned (.int .i64 (idxP p xs)) ∧ Below w.heap.size w w' := by
  unfold Enter1 at eg
  have hN := Lib.hid hx
  replace hf := Lib.hid hf
  have hRR := Lib.hid hR
  have HB0 := Lib.hid (bb w)
  clear hx hR
  go_enter Try.func111, Try.ntmps111
  go_wp2_with fail
  go_loopw [5, 8] (fun _ i wr => ∃ k : Nat, k ≤ xs.length ∧ i = .int .i64 k ∧ Hid ((xs.take k).any p = false) ∧ Hid (Below w.heap.size w wr)) (fun _ i _ => xs.length - (intOf i).toNat)
  case atStart => exact ⟨0, Nat.zero_le _, rfl, rfl, HB0⟩
  case round =>
    obtain ⟨k, hk, rfl, HD, HB⟩ := hrel
    clear HB0
    by_cases hlt : k < xs.length
    · obtain ⟨b, off, Bk, ck, rfl, m0, hI⟩ := (hN.out.grow HB.out).at_ k hlt
      have hcall := Lib.hid (hf.out xs[k] Bk ck wr hI (hRR.out _ (List.getElem_mem hlt)) HB.out)
      clear hI
      have hyes := Lib.hid (idxP_here hlt HD.out)
      have hno := Lib.hid (any_next hlt HD.out)
      generalize hq : p xs[k] = q at *
      clear hq
      cases q
      · have hD := Lib.hid (hno.out rfl)
        clear hyes hno HD
        go_wp2_with fail
        refine hcall.out.mono ?_
        rintro e w1 ⟨rfl, hb1⟩
        have HB2 := Lib.hid (btr HB.out hb1)
        clear hcall hb1 HB m0
        go_wp2_with fail
        go_roundw
        case rel => exact ⟨k + 1, by omega, by go_num, hD, HB2⟩
        case measure => simp [intOf]; omega
      · have hRes := Lib.hid (hyes.out rfl)
        clear hyes hno HD
        go_wp2_with fail
        refine hcall.out.mono ?_
        rintro e w1 ⟨rfl, hb1⟩
        have HB2 := Lib.hid (btr HB.out hb1)
        clear hcall hb1 HB m0
        go_wp2_with fail
        go_ret
        exact ⟨ret_int hRes.out.symm, HB2.out⟩
    · obtain rfl : k = xs.length := by omega
      have hRes := Lib.hid (idxP_none HD.out)
      go_wp2_with fail
      go_ret
      exact ⟨ret_int hRes.out.symm, HB.out⟩

theorem containsS_any {g : FuncId} {cb : Array Value} {p : List Int → Bool} {R : List Int → Prop} (eg : Enter1 g) (xs : List (List Int)) (A : Option Addr) (c : Nat) (w : World) (hx : ClsAt w A xs) (hl : xs.length ≤ 1000000) (hR : ∀ x ∈ xs, R x) (hf : FnS R w g cb p) :
    Calls Try.prog 85 #[.slice A xs.length c, .func (.func g) #[] cb] w fun e w' => e = .returned (.bool (xs.any p)) ∧ Below w.heap.size w w' := by
  have hcall := Lib.hid (indexFuncS_any eg xs A c w hx hl hR hf)
  have hge := Lib.hid (idxP_ge p xs)
  generalize idxP p xs = i at *
  clear hx hf hR
  go_enter Try.func85, Try.ntmps85
  go_wp2_with fail
  refine hcall.out.mono ?_
  rintro e w1 ⟨rfl, hb1⟩
  clear hcall
  go_wp2_with fail
  go_ret
  exact ⟨ret_bool hge.out, hb1⟩
end Go.Proofs.Ytkhopkonddgicaa

/- Contracts: clauses, in the reference and in the program. -/
namespace Go.Proofs.Ytkhopkonddgicaa
open Go.RowKit

theorem l2Lit_at {v l : Int} {q : Bool} (h : litB v l = q) (w : World) : Calls Try.prog 109 #[.int .i64 v, .int .i64 l] w fun e w' => e = .returned (.bool q) ∧ Below w.heap.size w w' := h ▸ same_below (l2Lit_any v l w)
theorem isLiteral_at {v l : Int} {q : Bool} (h : litB v l = q) (w : World) : Calls Try.prog 107 #[.int .i64 v, .int .i64 l] w fun e w' => e = .returned (.bool q) ∧ Below w.heap.size w w' := h ▸ same_below (isLiteral_any v l w)
theorem l2Var_at {l x : Int} (h : absV l = x) (w : World) : Calls Try.prog 110 #[.int .i64 l] w fun e w' => e = .returned (.int .i64 x) ∧ Below w.heap.size w w' := h ▸ same_below (l2Var_any l w)
theorem abs_at {l x : Int} (hl : I64 l) (h : absV l = x) (w : World) : Calls Try.prog 108 #[.int .i64 l] w fun e w' => e = .returned (.int .i64 x) ∧ Below w.heap.size w w' := h ▸ same_below (abs_any l w hl)

theorem cOk_zero (vars : Int) (c : List Int) (h : 0 < c.length) : cOk vars c 0 = litB vars c[0] := by simp [cOk, List.getD_eq_getElem?_getD, List.getElem?_eq_getElem h]
theorem cOk_succ (vars : Int) (c : List Int) (k : Nat) (h : k + 1 < c.length) : cOk vars c (k + 1) = (litB vars c[k + 1] && decide (absV (c[k]'(by omega)) < absV c[k + 1])) := by
  simp [cOk, List.getD_eq_getElem?_getD, List.getElem?_eq_getElem h, List.getElem?_eq_getElem (show k < c.length by omega)]
theorem clause_no {vars : Int} {c : List Int} {k : Nat} (hk : k < c.length) (h : cOk vars c k = false) : clauseB vars c = false := by
  unfold clauseB
  rw [cOkTo_le (k := k + 1) hk (by rw [cOkTo_succ, h, Bool.and_false]), Bool.and_false]
theorem clause_step {vars : Int} {c : List Int} {k : Nat} (h0 : cOkTo vars c k = true) (h : cOk vars c k = true) : cOkTo vars c (k + 1) = true := by rw [cOkTo_succ, h0, h]; rfl

set_option maxHeartbeats 1000000 in
theorem l2Clause_any (vars : Int) (v : Value) (c : List Int) (F : List Nat) (w : World) (hx : Ty.int.row false w v c F) :
    Calls Try.prog 83 #[.int .i64 vars, v] w fun e w' => e = .returned (.bool (clauseB vars c)) ∧ Below w.heap.size w w' := by
  obtain ⟨a, cap, rfl, hx1, hx2, hxI, hx3⟩ := row_int hx
  cases hv : inB vars 0 12
  · have hd : Hid (clauseB vars c = false) := by unfold Hid clauseB; rw [hv]; rfl
    go_enter Try.func83, Try.ntmps83
    go_wp2_with (go_at_call 82; refine (l2Vars_any _ _).mono ?_; rw [hv]; rintro e w1 ⟨rfl, rfl⟩)
    go_ret
    exact ⟨ret_bool hd.out.symm, bb _⟩
  have hd : Hid (clauseB vars c = cOkTo vars c c.length) := by unfold Hid clauseB; rw [hv]; rfl
  go_enter Try.func83, Try.ntmps83
  go_wp2_with (go_at_call 82; refine (l2Vars_any _ _).mono ?_; rw [hv]; rintro e w1 ⟨rfl, rfl⟩)
  go_loopw [5] (fun i wr => ∃ k : Nat, k ≤ c.length ∧ i = .int .i64 k ∧ Hid (cOkTo vars c k = true) ∧ Below w.heap.size w wr) (fun i _ => c.length - (intOf i).toNat)
  case atStart => exact ⟨0, Nat.zero_le _, rfl, by simp [Hid, cOkTo], bb _⟩
  case round =>
    obtain ⟨k, hk, rfl, HR, hB⟩ := hrel
    by_cases hlt : k < c.length
    · rcases hx3 with ⟨rfl, rfl⟩ | ⟨hxn, b, off, rfl, rfl, hxc⟩
      · exact absurd hlt (by simp)
      have k0 := cell_regrown ((hxc k hlt).keep (hB.block b (hxc k hlt).lt)).1
      cases hl : litB vars c[k]
      · have HN : Hid (clauseB vars c = false) := clause_no hlt (by unfold cOk; rw [List.getD_eq_getElem?_getD, List.getElem?_eq_getElem hlt]; simp [hl])
        go_wp2_with fail
        refine wp_region_quiet_below (by kernel_rfl) (by kernel_rfl) ?_
        repeat (any_goals (first | go_big_quiet_step ((go_at_call 109; exact Calls.regrown_of (l2Lit_at hl _)))))
        refine wpQuiet_nil ?_
        rintro w1 ⟨p, rfl⟩
        go_wp2_with fail
        go_ret
        exact ⟨ret_bool HN.out.symm, hB.trans ((below_regrown _ _ _).mono hB.size)⟩
      rcases Nat.eq_zero_or_pos k with rfl | hpos
      · have HN : Hid (cOkTo vars c (0 + 1) = true) := clause_step rfl (by rw [cOk_zero _ _ hlt]; exact hl)
        rw [Nat.add_zero] at k0
        clear HR
        go_wp2_with fail
        refine wp_region_quiet_below (by kernel_rfl) (by kernel_rfl) ?_
        repeat (any_goals (first | go_big_quiet_step ((go_at_call 109; exact Calls.regrown_of (l2Lit_at hl _)))))
        refine wpQuiet_nil ?_
        rintro w1 ⟨p, rfl⟩
        go_wp2_with fail
        go_roundw
        case rel => exact ⟨0 + 1, by omega, by go_num, HN, hB.trans ((below_regrown _ _ _).mono hB.size)⟩
        case measure => simp [intOf]; omega
      have hj : k - 1 < c.length := by omega
      have k1 := cell_regrown ((hxc (k - 1) hj).keep (hB.block b (hxc (k - 1) hj).lt)).1
      have HS : cOk vars c k = decide (absV c[k - 1] < absV c[k]) := by
        obtain ⟨j, rfl⟩ : ∃ j, k = j + 1 := ⟨k - 1, by omega⟩
        rw [cOk_succ vars c j hlt, hl, Bool.true_and]
        rfl
      obtain ⟨x, hx⟩ : ∃ x, absV c[k - 1] = x := ⟨_, rfl⟩
      obtain ⟨y, hy⟩ : ∃ y, absV c[k] = y := ⟨_, rfl⟩
      rw [hx, hy] at HS
      have hg : (0 : Int) < (k : Int) := by omega
      by_cases hc : x < y
      · have HN : Hid (cOkTo vars c (k + 1) = true) := clause_step HR.out (by rw [HS]; simpa using hc)
        clear HS HR
        go_wp2_with fail
        refine wp_region_quiet_below (by kernel_rfl) (by kernel_rfl) ?_
        repeat (any_goals (first | go_big_quiet_step (first | (go_at_call 109; exact Calls.regrown_of (l2Lit_at hl _)) | (go_at_call 110; first | (with_reducible exact Calls.regrown_of (l2Var_at hx _)) | (with_reducible exact Calls.regrown_of (l2Var_at hy _))))))
        refine wpQuiet_nil ?_
        rintro w1 ⟨p, rfl⟩
        go_wp2_with fail
        go_roundw
        case rel => exact ⟨k + 1, by omega, by go_num, HN, hB.trans ((below_regrown _ _ _).mono hB.size)⟩
        case measure => simp [intOf]; omega
      · have HN : Hid (clauseB vars c = false) := clause_no hlt (by rw [HS]; simpa using hc)
        clear HS HR
        go_wp2_with fail
        refine wp_region_quiet_below (by kernel_rfl) (by kernel_rfl) ?_
        repeat (any_goals (first | go_big_quiet_step (first | (go_at_call 109; exact Calls.regrown_of (l2Lit_at hl _)) | (go_at_call 110; first | (with_reducible exact Calls.regrown_of (l2Var_at hx _)) | (with_reducible exact Calls.regrown_of (l2Var_at hy _))))))
        refine wpQuiet_nil ?_
        rintro w1 ⟨p, rfl⟩
        go_wp2_with fail
        go_ret
        exact ⟨ret_bool HN.out.symm, hB.trans ((below_regrown _ _ _).mono hB.size)⟩
    · obtain rfl : k = c.length := by omega
      have HN := HR.out
      replace HN := (show Hid (cOkTo vars c c.length = true) from HN)
      go_wp2_with fail
      go_ret
      exact ⟨ret_bool (by rw [hd.out, HN.out]), hB⟩
set_option maxHeartbeats 1000000 in
theorem implIsClause_any (vars : Int) (v : Value) (c : List Int) (F : List Nat) (w : World) (hx : Ty.int.row false w v c F) :
    Calls Try.prog 81 #[.int .i64 vars, v] w fun e w' => e = .returned (.bool (clauseB vars c)) ∧ Below w.heap.size w w' := by
  obtain ⟨a, cap, rfl, hx1, hx2, hxI, hx3⟩ := row_int hx
  go_enter Try.func81, Try.ntmps81
  go_wp2_with fail
  go_loopw [9] (fun i wr => ∃ k : Nat, k ≤ c.length ∧ i = .int .i64 k ∧ Hid (cOkTo vars c k = true) ∧ Below w.heap.size w wr) (fun i _ => c.length - (intOf i).toNat)
  case atStart => exact ⟨0, Nat.zero_le _, rfl, by simp [Hid, cOkTo], bb _⟩
  case round =>
    obtain ⟨k, hk, rfl, HR, hB⟩ := hrel
    by_cases hlt : k < c.length
    · rcases hx3 with ⟨rfl, rfl⟩ | ⟨hxn, b, off, rfl, rfl, hxc⟩
      · exact absurd hlt (by simp)
      have k0 := ((hxc k hlt).keep (hB.block b (hxc k hlt).lt)).1
      have hI0 : I64 c[k] := hxI _ (List.getElem_mem _)
      cases hl : litB vars c[k]
      · have HN : Hid (clauseB vars c = false) := clause_no hlt (by unfold cOk; rw [List.getD_eq_getElem?_getD, List.getElem?_eq_getElem hlt]; simp [hl])
        go_wp2_with fail
        refine wp_region_quiet_below (by kernel_rfl) (by kernel_rfl) ?_
        repeat (any_goals (first | go_big_quiet_step ((go_at_call 107; exact Calls.regrown_of (isLiteral_at hl _)))))
        refine wpQuiet_nil ?_
        rintro w1 ⟨p, rfl⟩
        go_wp2_with fail
        go_ret
        exact ⟨ret_bool HN.out.symm, hB.trans ((below_regrown _ _ _).mono hB.size)⟩
      rcases Nat.eq_zero_or_pos k with rfl | hpos
      · have HN : Hid (cOkTo vars c (0 + 1) = true) := clause_step rfl (by rw [cOk_zero _ _ hlt]; exact hl)
        rw [Nat.add_zero] at k0
        clear HR
        go_wp2_with fail
        refine wp_region_quiet_below (by kernel_rfl) (by kernel_rfl) ?_
        repeat (any_goals (first | go_big_quiet_step ((go_at_call 107; exact Calls.regrown_of (isLiteral_at hl _)))))
        refine wpQuiet_nil ?_
        rintro w1 ⟨p, rfl⟩
        go_wp2_with fail
        go_roundw
        case rel => exact ⟨0 + 1, by omega, by go_num, HN, hB.trans ((below_regrown _ _ _).mono hB.size)⟩
        case measure => simp [intOf]; omega
      have hj : k - 1 < c.length := by omega
      have k1 := cell_regrown ((hxc (k - 1) hj).keep (hB.block b (hxc (k - 1) hj).lt)).1
      have hI1 : I64 c[k - 1] := hxI _ (List.getElem_mem _)
      have HS : cOk vars c k = decide (absV c[k - 1] < absV c[k]) := by
        obtain ⟨j, rfl⟩ : ∃ j, k = j + 1 := ⟨k - 1, by omega⟩
        rw [cOk_succ vars c j hlt, hl, Bool.true_and]
        rfl
      obtain ⟨x, hx⟩ : ∃ x, absV c[k - 1] = x := ⟨_, rfl⟩
      obtain ⟨y, hy⟩ : ∃ y, absV c[k] = y := ⟨_, rfl⟩
      rw [hx, hy] at HS
      have hg : (0 : Int) < (k : Int) := by omega
      by_cases hc : x < y
      · have HN : Hid (cOkTo vars c (k + 1) = true) := clause_step HR.out (by rw [HS]; simpa using hc)
        clear HS HR
        go_wp2_with fail
        refine wp_region_quiet_below (by kernel_rfl) (by kernel_rfl) ?_
        repeat (any_goals (first | go_big_quiet_step (first | (go_at_call 107; exact Calls.regrown_of (isLiteral_at hl _)) | (go_at_call 108; first | (with_reducible exact Calls.regrown_of (abs_at hI1 hx _)) | (with_reducible exact Calls.regrown_of (abs_at hI0 hy _))))))
        refine wpQuiet_nil ?_
        rintro w1 ⟨p, rfl⟩
        go_wp2_with fail
        go_roundw
        case rel => exact ⟨k + 1, by omega, by go_num, HN, hB.trans ((below_regrown _ _ _).mono hB.size)⟩
        case measure => simp [intOf]; omega
      · have HN : Hid (clauseB vars c = false) := clause_no hlt (by rw [HS]; simpa using hc)
        clear HS HR
        go_wp2_with fail
        refine wp_region_quiet_below (by kernel_rfl) (by kernel_rfl) ?_
        repeat (any_goals (first | go_big_quiet_step (first | (go_at_call 107; exact Calls.regrown_of (isLiteral_at hl _)) | (go_at_call 108; first | (with_reducible exact Calls.regrown_of (abs_at hI1 hx _)) | (with_reducible exact Calls.regrown_of (abs_at hI0 hy _))))))
        refine wpQuiet_nil ?_
        rintro w1 ⟨p, rfl⟩
        go_wp2_with fail
        go_ret
        exact ⟨ret_bool HN.out.symm, hB.trans ((below_regrown _ _ _).mono hB.size)⟩
    · obtain rfl : k = c.length := by omega
      have HN : Hid (clauseB vars c = inB vars 0 12) := by unfold Hid clauseB; rw [HR.out, Bool.and_true]
      clear HR
      go_wp2_with (go_at_call 60; refine (varsOk_any _ _).mono ?_; rintro e w1 ⟨rfl, rfl⟩)
      go_ret
      exact ⟨ret_bool HN.out.symm, hB⟩
end Go.Proofs.Ytkhopkonddgicaa

/- Contracts: rows of rows of ints and Cnfs in the laws. -/
namespace Go.Proofs.Ytkhopkonddgicaa
open Go.RowKit

/- left out: the seat has no laws.szIntS -/

/-- The number of numbers in the first k rows. -/
def sumTo (xss : List (List Int)) (k : Nat) : Nat := ((xss.take k).map List.length).sum
theorem sumTo_succ (xss : List (List Int)) (k : Nat) (hk : k < xss.length) : sumTo xss (k + 1) = sumTo xss k + xss[k].length := by
  unfold sumTo; rw [List.take_succ_eq_append_getElem hk, List.map_append, List.sum_append]; simp
theorem sumTo_all (xss : List (List Int)) : sumTo xss xss.length = (xss.map List.length).sum := by unfold sumTo; rw [List.take_length]
theorem sumTo_le (xss : List (List Int)) (k : Nat) : sumTo xss k ≤ (xss.map List.length).sum := by
  unfold sumTo
  conv => rhs; rw [← List.take_append_drop k xss]
  rw [List.map_append, List.sum_append]; omega
theorem sumTo_zero (xss : List (List Int)) : sumTo xss 0 = 0 := rfl
theorem get_len_le (xss : List (List Int)) (k : Nat) (hk : k < xss.length) : xss[k].length ≤ (xss.map List.length).sum := by
  have := sumTo_le xss (k + 1)
  rw [sumTo_succ xss k hk] at this; omega

/-- What is left, or -1. -/
def szOf (n : Int) (b : Nat) : Int := if n < (b : Int) then -1 else n - b
theorem szOf_no {n : Int} {b : Nat} (h : n < (b : Int)) : szOf n b = -1 := if_pos h
theorem szOf_yes {n : Int} {b : Nat} (h : (b : Int) ≤ n) : szOf n b = n - b := if_neg (by omega)

/- left out: the seat has no laws.szIntSS -/

theorem infoRow : (Try.prog.info? 45).map (fun i => (i.zero, i.size, i.bytes)) = some (some (.slice none 0 0), 1, 24) := by kernel_rfl

/- left out: the seat has no laws.toIntSS -/

/- left out: the seat has no laws.eqIntSS -/
end Go.Proofs.Ytkhopkonddgicaa

/- Contracts: valid Cnfs, in the reference and in the program. -/
namespace Go.Proofs.Ytkhopkonddgicaa
open Go.RowKit

/-- A valid Cnf. -/
def goodB (vars : Int) (xss : List (List Int)) : Bool := inB vars 0 12 && decide (xss.length ≤ 60) && xss.all (clauseB vars)
theorem good_no {vars : Int} {xss : List (List Int)} {k : Nat} (hk : k < xss.length) (h : clauseB vars xss[k] = false) : goodB vars xss = false := by
  have : xss.all (clauseB vars) = false := by
    rw [Bool.eq_false_iff]
    intro h2
    rw [List.all_eq_true] at h2
    rw [h2 _ (List.getElem_mem hk)] at h
    cases h
  simp [goodB, this]
theorem all_step {vars : Int} {xss : List (List Int)} {k : Nat} (hk : k < xss.length) (h0 : (xss.take k).all (clauseB vars) = true) (h : clauseB vars xss[k] = true) : (xss.take (k + 1)).all (clauseB vars) = true := by
  rw [List.take_succ_eq_append_getElem hk, List.all_append, h0]
  simp [h]

theorem l2Clause_at {vars : Int} {v : Value} {c : List Int} {F : List Nat} {w : World} {q : Bool} (hx : Ty.int.row false w v c F) (h : clauseB vars c = q) :
    Calls Try.prog 83 #[.int .i64 vars, v] w fun e w' => e = .returned (.bool q) ∧ Below w.heap.size w w' := h ▸ l2Clause_any vars v c F w hx
theorem implIsClause_at {vars : Int} {v : Value} {c : List Int} {F : List Nat} {w : World} {q : Bool} (hx : Ty.int.row false w v c F) (h : clauseB vars c = q) :
    Calls Try.prog 81 #[.int .i64 vars, v] w fun e w' => e = .returned (.bool q) ∧ Below w.heap.size w w' := h ▸ implIsClause_any vars v c F w hx

/- left out: the seat has no spec.l3Good -/

/-- A boxed Cnf in the first new block. -/
def CBox (w : World) (n : Int) (v : Value) (wx : World) : Prop :=
  wx.cell? ⟨w.heap.size, 0, none⟩ = some (.int .i64 n) ∧ wx.cell? ⟨w.heap.size, 1, none⟩ = some v ∧ Below w.heap.size w wx ∧ w.heap.size < wx.heap.size
theorem CBox.grow {w : World} {n : Int} {v : Value} {wx wy : World} (h : CBox w n v wx) (hb : Below wx.heap.size wx wy) : CBox w n v wy := by
  obtain ⟨h0, h1, hB, hs⟩ := h
  have hc := (bcell hb).1
  exact ⟨(hc _ _ hs).trans h0, (hc _ _ hs).trans h1, btr hB hb, Nat.lt_of_lt_of_le hs hb.size⟩
theorem CBox.new (w : World) (n : Int) (v : Value) (T : TypeId) : CBox w n v (w.alloc (.cells #[.int .i64 n, v] T)) :=
  ⟨by simp [go_sem], by simp [go_sem], bal (bb _) _, by simp⟩

set_option maxHeartbeats 2000000 in
theorem l2Good_any (vars : Int) (v : Value) (xss : List (List Int)) (F : List Nat) (w : World) (hx : (Ty.slice Ty.int).row false w v xss F) :
    Calls Try.prog 40 #[.agg #[.int .i64 vars, v]] w fun e w' => e = .returned (.bool (goodB vars xss)) ∧ Below w.heap.size w w' := by
  obtain ⟨a, cap, rfl, hx1, hx2, hx3⟩ := row_slices hx
  cases hv : inB vars 0 12
  · have hd : Hid (goodB vars xss = false) := by unfold Hid goodB; rw [hv]; rfl
    go_enter Try.func40, Try.ntmps40
    go_wp2_with (go_at_call 82; refine (l2Vars_any _ _).mono ?_; rw [hv]; rintro e w1 ⟨rfl, rfl⟩)
    go_ret
    exact ⟨ret_bool hd.out.symm, bal (bb _) _⟩
  by_cases hL : (60 : Int) < (xss.length : Int)
  · have hd : Hid (goodB vars xss = false) := by unfold Hid goodB; rw [decide_eq_false (show ¬ xss.length ≤ 60 by omega)]; simp
    go_enter Try.func40, Try.ntmps40
    go_wp2_with (go_at_call 82; refine (l2Vars_any _ _).mono ?_; rw [hv]; rintro e w1 ⟨rfl, rfl⟩)
    go_ret
    exact ⟨ret_bool hd.out.symm, bal (bb _) _⟩
  have hd : Hid (goodB vars xss = xss.all (clauseB vars)) := by unfold Hid goodB; rw [hv, decide_eq_true (show xss.length ≤ 60 by omega)]; rfl
  have hst := CBox.new w vars (.slice a xss.length cap) 26
  replace hst := Lib.hid hst
  go_enter Try.func40, Try.ntmps40
  go_wp2_with (go_at_call 82; refine (l2Vars_any _ _).mono ?_; rw [hv]; rintro e w1 ⟨rfl, rfl⟩)
  go_loopw [3] (fun i wr => ∃ k : Nat, k ≤ xss.length ∧ i = .int .i64 k ∧ Hid ((xss.take k).all (clauseB vars) = true) ∧ CBox w vars (.slice a xss.length cap) wr) (fun i _ => xss.length - (intOf i).toNat)
  case atStart => exact ⟨0, Nat.zero_le _, rfl, by simp [Hid], hst.out⟩
  case round =>
    obtain ⟨k, hk, rfl, HR, HC⟩ := hrel
    have HJ := Lib.hid HC
    obtain ⟨c0, c1, hB, hs⟩ := HC
    by_cases hlt : k < xss.length
    · rcases hx3 with ⟨rfl, rfl⟩ | ⟨hxn, b, off, rfl, _, hxc⟩
      · exact absurd hlt (by simp)
      obtain ⟨u, Fk, hc, hr, _⟩ := hxc k hlt
      have hr' := Ty.row_below hr hB (Ty.row_lt hr)
      obtain ⟨ua, uc, rfl, hu1, hu2⟩ := Ty.row_len hr
      have k0 := cell_regrown (hc.keep (hB.block b hc.lt)).1
      have k1 := cell_regrown c0
      have k2 := cell_regrown c1
      cases hl : clauseB vars xss[k]
      · have HN : Hid (goodB vars xss = false) := good_no hlt hl
        go_wp2_with fail
        refine wp_region_quiet_below (by kernel_rfl) (by kernel_rfl) ?_
        repeat (any_goals (first | go_big_quiet_step ((go_at_call 83; exact Calls.regrown_of (l2Clause_at (Ty.row_below hr' (below_regrown _ _ _) (Ty.row_lt hr')) hl)))))
        refine wpQuiet_nil ?_
        rintro w1 ⟨p, rfl⟩
        go_wp2_with fail
        go_ret
        exact ⟨ret_bool HN.out.symm, hB.trans ((below_regrown _ _ _).mono hB.size)⟩
      · have HN : Hid ((xss.take (k + 1)).all (clauseB vars) = true) := all_step hlt HR.out hl
        clear HR
        go_wp2_with fail
        refine wp_region_quiet_below (by kernel_rfl) (by kernel_rfl) ?_
        repeat (any_goals (first | go_big_quiet_step ((go_at_call 83; exact Calls.regrown_of (l2Clause_at (Ty.row_below hr' (below_regrown _ _ _) (Ty.row_lt hr')) hl)))))
        refine wpQuiet_nil ?_
        rintro w1 ⟨p, rfl⟩
        go_wp2_with fail
        go_roundw
        case rel => exact ⟨k + 1, by omega, by go_num, HN, HJ.out.grow (below_regrown _ _ _)⟩
        case measure => simp [intOf]; omega
    · obtain rfl : k = xss.length := by omega
      have HN := HR.out
      rw [List.take_length] at HN
      replace HN := Lib.hid HN
      clear HR
      go_wp2_with fail
      go_ret
      exact ⟨ret_bool (by rw [hd.out, HN.out]), hB⟩

set_option maxHeartbeats 2000000 in
theorem implIsCnf_any (vars : Int) (v : Value) (xss : List (List Int)) (F : List Nat) (w : World) (hx : (Ty.slice Ty.int).row false w v xss F) :
    Calls Try.prog 39 #[.agg #[.int .i64 vars, v]] w fun e w' => e = .returned (.bool (goodB vars xss)) ∧ Below w.heap.size w w' := by
  obtain ⟨a, cap, rfl, hx1, hx2, hx3⟩ := row_slices hx
  have hst := CBox.new w vars (.slice a xss.length cap) 26
  replace hst := Lib.hid hst
  go_enter Try.func39, Try.ntmps39
  go_wp2_with fail
  go_loopw [8] (fun i wr => ∃ k : Nat, k ≤ xss.length ∧ i = .int .i64 k ∧ Hid ((xss.take k).all (clauseB vars) = true) ∧ CBox w vars (.slice a xss.length cap) wr) (fun i _ => xss.length - (intOf i).toNat)
  case atStart => exact ⟨0, Nat.zero_le _, rfl, by simp [Hid], hst.out⟩
  case round =>
    obtain ⟨k, hk, rfl, HR, HC⟩ := hrel
    have HJ := Lib.hid HC
    obtain ⟨c0, c1, hB, hs⟩ := HC
    by_cases hlt : k < xss.length
    · rcases hx3 with ⟨rfl, rfl⟩ | ⟨hxn, b, off, rfl, _, hxc⟩
      · exact absurd hlt (by simp)
      obtain ⟨u, Fk, hc, hr, _⟩ := hxc k hlt
      have hr' := Ty.row_below hr hB (Ty.row_lt hr)
      obtain ⟨ua, uc, rfl, hu1, hu2⟩ := Ty.row_len hr
      have k0 := (hc.keep (hB.block b hc.lt)).1
      cases hl : clauseB vars xss[k]
      · have HN : Hid (goodB vars xss = false) := good_no hlt hl
        go_wp2_with (go_at_call 81; refine (implIsClause_at hr' hl).mono ?_; rintro e w1 ⟨rfl, hb1⟩)
        go_ret
        exact ⟨ret_bool HN.out.symm, btr hB hb1⟩
      · have HN : Hid ((xss.take (k + 1)).all (clauseB vars) = true) := all_step hlt HR.out hl
        clear HR
        go_wp2_with (go_at_call 81; refine (implIsClause_at hr' hl).mono ?_; rintro e w1 ⟨rfl, hb1⟩)
        go_roundw
        case rel => exact ⟨k + 1, by omega, by go_num, HN, HJ.out.grow hb1⟩
        case measure => simp [intOf]; omega
    · obtain rfl : k = xss.length := by omega
      have HN := HR.out
      rw [List.take_length] at HN
      have hd : Hid (goodB vars xss = (inB vars 0 12 && decide ((xss.length : Int) ≤ 60))) := by
        unfold Hid goodB
        rw [HN, Bool.and_true]
        congr 1
        exact decide_eq_decide.2 (by omega)
      clear HR HN
      cases hv : inB vars 0 12
      · go_wp2_with (go_at_call 60; refine (varsOk_any _ _).mono ?_; rw [hv]; rintro e w1 ⟨rfl, rfl⟩)
        go_ret
        exact ⟨ret_bool (by rw [hd.out, hv]; rfl), hB⟩
      · go_wp2_with (go_at_call 60; refine (varsOk_any _ _).mono ?_; rw [hv]; rintro e w1 ⟨rfl, rfl⟩)
        go_ret
        exact ⟨ret_bool (by rw [hd.out, hv]; rfl), hB⟩

/- left out: the seat has no spec.l3Asked -/
end Go.Proofs.Ytkhopkonddgicaa

/- Contracts: truth of clauses and of Cnfs at bits, in the program. -/
namespace Go.Proofs.Ytkhopkonddgicaa
open Go.RowKit

/-- A literal that can be told at bits. -/
def LitS (l : Int) : Prop := l ≠ 0 ∧ -1000 ≤ l ∧ l ≤ 1000
theorem LitS.i64 {l : Int} (h : LitS l) : I64 l := by unfold LitS at h; unfold I64; omega
theorem absV_lit {l : Int} (h : LitS l) : absV l = (l.natAbs : Int) := by
  unfold LitS at h
  unfold absV
  split
  · rw [negV_small (by unfold I64; omega) (by omega)]; omega
  · omega
/-- A bit that is shifted to the end. -/
theorem bit_at (b : Nat) (hb : b < 2 ^ 62) (m : Nat) : bits .and .i64 ((b : Int) / 2 ^ min m 64) 1 = if b.testBit m then 1 else 0 := by
  have e0 : (b : Int) / 2 ^ min m 64 = ((b / 2 ^ min m 64 : Nat) : Int) := by
    rw [Int.natCast_ediv, Int.natCast_pow]; rfl
  rw [e0, and_one _ (Nat.lt_of_le_of_lt (Nat.div_le_self _ _) (Nat.lt_trans hb (by decide)))]
  have h64 : ∀ s, 64 ≤ s → b.testBit s = false := fun s hs => Nat.testBit_lt_two_pow (Nat.lt_of_lt_of_le hb (Nat.pow_le_pow_right (by decide) (by omega)))
  have e : b.testBit m = b.testBit (min m 64) := by
    rcases Nat.lt_or_ge m 64 with h | h
    · rw [Nat.min_eq_left (by omega)]
    · rw [h64 _ h, h64 _ (by omega)]
  rw [e, Nat.testBit_eq_decide_div_mod_eq]
  rcases Nat.mod_two_eq_zero_or_one (b / 2 ^ min m 64) with h | h
  · rw [h]; simp
  · rw [h]; simp

set_option maxRecDepth 100000 in
set_option maxHeartbeats 4000000 in
theorem holds1_any (l : Int) (hl : LitS l) (b g : Nat) (hb : b < 2 ^ 62) (w : World) (k0 : w.cell? ⟨g, 0, none⟩ = some (.int .i64 b)) :
    Calls Try.prog 112 #[.int .i64 l, .pointer (some ⟨g, 0, none⟩)] w fun e w' => e = .returned (.bool (litT b l)) ∧ Below w.heap.size w w' := by
  obtain ⟨m, hm⟩ : ∃ m, l.natAbs = m + 1 := ⟨l.natAbs - 1, by unfold LitS at hl; omega⟩
  have ha := fun W => abs_at hl.i64 (absV_lit hl) W
  have hand := bit_at b hb m
  have hR : Hid (litT b l = (b.testBit (l.natAbs - 1) == decide (0 < l))) := rfl
  rw [hm, show m + 1 - 1 = m by omega] at hR
  rw [hm, show ((m + 1 : Nat) : Int) = (m : Int) + 1 by omega] at ha
  have hw1 : IntKind.i64.wrap ((m : Int) + 1 - 1) = (m : Int) := by rw [IntWalk.i64_in _ (by unfold LitS at hl; omega)]; omega
  have hw2 : IntKind.i64.wrap (m : Int) = (m : Int) := by rw [IntWalk.i64_in _ (by unfold LitS at hl; omega)]
  have hm2 : m ≤ 1000 := by unfold LitS at hl; omega
  generalize b.testBit m = q at *
  clear hm hl
  cases hp : decide (0 < l)
  all_goals
    rw [hp] at hR
    cases q
  all_goals
    simp only [if_true, if_false, Bool.false_eq_true] at hand
    go_enter Try.func112, Try.ntmps112
    go_wp2_with fail
    refine wp_region_held_lit (S := (fun w' => w'.cell? ⟨g, 0, none⟩ = some (.int .i64 b))) 11 [false, false, false, false, false, false, false, false, false, false, false] (by kernel_rfl) (by kernel_rfl) (by kernel_rfl) ?_ ?_
    · exact k0
    intro hS
    (refine wpAnyH_take (i := 0) (v := ?_) rfl (by kernel_rfl) (by kernel_rfl) (by kernel_rfl) (fun _ _ _ h => h) (Or.inl ⟨by rfl, ?_⟩) (by assumption) ?_; rotate_left; (focus (intro w hSw; (try dsimp only at hSw); go_simp; (try with_reducible rfl); done)); (try simp only [put_rules]))
    (refine wpAnyH_take (i := 1) (v := ?_) rfl (by kernel_rfl) (by kernel_rfl) (by kernel_rfl) (fun _ _ _ h => h) (Or.inl ⟨by rfl, ?_⟩) (by assumption) ?_; rotate_left; (focus (intro w hSw; (try dsimp only at hSw); go_simp; (try with_reducible rfl); done)); (try simp only [put_rules]))
    (refine wpAnyH_take (i := 7) (v := ?_) rfl (by kernel_rfl) (by kernel_rfl) (by kernel_rfl) (fun _ _ _ h => h) (Or.inl ⟨by rfl, ?_⟩) (by assumption) ?_; rotate_left; (focus (intro w hSw; (try dsimp only at hSw); go_simp; (try with_reducible rfl); done)); (try simp only [put_rules]))
    (refine wpAnyH_take (i := 8) (v := ?_) rfl (by kernel_rfl) (by kernel_rfl) (by kernel_rfl) (fun _ _ _ h => h) (Or.inl ⟨by rfl, ?_⟩) (by assumption) ?_; rotate_left; (focus (intro w hSw; (try dsimp only at hSw); go_simp; (try with_reducible rfl); done)); (try simp only [put_rules]))
    (refine wpAnyH_ready (rs := [2]) (by kernel_rfl) (by simp) ?_; refine AllReadyH.cons rfl (fun K hK => ?_) AllReadyH.nil)
    go_simp
    go_at_call 108
    refine (ha _).mono ?_
    rintro e w1 ⟨rfl, hb1⟩
    have hB1 := btr (bdr (bb w)) hb1
    have k1 := ((bcell hB1).1 g 0 (World.block_lt_of_cell? _ _ k0)).trans k0
    go_wp2_with fail
    refine hK.out _ _ k1 (fun hS2 => ?_)
    clear hK hS
    (try simp only [put_rules])
    (refine wpAnyH_take (i := 3) (v := ?_) rfl (by kernel_rfl) (by kernel_rfl) (by kernel_rfl) (fun _ _ _ h => h) (Or.inl ⟨by rfl, ?_⟩) (by assumption) ?_; rotate_left; (focus (intro w hSw; (try dsimp only at hSw); go_simp; (try with_reducible rfl); done)); (try simp only [put_rules]))
    (refine wpAnyH_take (i := 4) (v := ?_) rfl (by kernel_rfl) (by kernel_rfl) (by kernel_rfl) (fun _ _ _ h => h) (Or.inl ⟨by rfl, ?_⟩) (by assumption) ?_; rotate_left; (focus (intro w hSw; (try dsimp only at hSw); go_simp; (try with_reducible rfl); done)); (try simp only [put_rules]))
    (refine wpAnyH_take (i := 5) (v := ?_) rfl (by kernel_rfl) (by kernel_rfl) (by kernel_rfl) (fun _ _ _ h => h) (Or.inl ⟨by rfl, ?_⟩) (by assumption) ?_; rotate_left; (focus (intro w hSw; (try dsimp only at hSw); go_simp; (try with_reducible rfl); done)); (try simp only [put_rules]))
    (refine wpAnyH_take (i := 6) (v := ?_) rfl (by kernel_rfl) (by kernel_rfl) (by kernel_rfl) (fun _ _ _ h => h) (Or.inl ⟨by rfl, ?_⟩) (by assumption) ?_; rotate_left; (focus (intro w hSw; (try dsimp only at hSw); go_simp; (try with_reducible rfl); done)); (try simp only [put_rules]))
    (refine wpAnyH_take (i := 9) (v := ?_) rfl (by kernel_rfl) (by kernel_rfl) (by kernel_rfl) (fun _ _ _ h => h) (Or.inl ⟨by rfl, ?_⟩) (by assumption) ?_; rotate_left; (focus (intro w hSw; (try dsimp only at hSw); go_simp; (try with_reducible rfl); done)); (try simp only [put_rules]))
    (refine wpAnyH_take (i := 10) (v := ?_) rfl (by kernel_rfl) (by kernel_rfl) (by kernel_rfl) (fun _ _ _ h => h) (Or.inl ⟨by rfl, ?_⟩) (by assumption) ?_; rotate_left; (focus (intro w hSw; (try dsimp only at hSw); go_simp; (try with_reducible rfl); done)); (try simp only [put_rules]))
    (refine wpAnyH_done (by kernel_rfl) ?_ _)
    go_wp2_with fail
    go_ret
    exact ⟨ret_bool hR.out.symm, hB1⟩

set_option maxRecDepth 100000 in
theorem holds_any (c : List Int) (hc : ∀ l ∈ c, LitS l) (hl : c.length ≤ 1000000) (A : Option Addr) (cap b : Nat) (hb : b < 2 ^ 62) (w : World) (hx : IntsAt w A c) :
    Calls Try.prog 87 #[.slice A c.length cap, .int .i64 b] w fun e w' => e = .returned (.bool (clT c b)) ∧ Below w.heap.size w w' := by
  have hB := bal (bb w) (.cells #[.int .i64 b] 3)
  have k0 : (w.alloc (.cells #[.int .i64 b] 3)).cell? ⟨w.heap.size, 0, none⟩ = some (.int .i64 b) := cell_of_row _ _ _ _ _ _ (heap_alloc_new w _)
  have eg : Enter1 112 := enters_of Try.func112 (by kernel_rfl) rfl
  have hf : FnI LitS (w.alloc (.cells #[.int .i64 b] 3)) 112 #[.pointer (some ⟨w.heap.size, 0, none⟩)] (litT b) := by
    intro x W hx hbl
    exact holds1_any x hx b w.heap.size hb W (((bcell hbl).1 w.heap.size 0 (by simp)).trans k0)
  have hcall := Lib.hid (containsI_any eg c A cap _ (hx.grow hB) hl hc hf)
  rw [show c.any (litT b) = clT c b from rfl] at hcall
  clear hx k0 eg hf
  go_enter Try.func87, Try.ntmps87
  go_wp2_with fail
  refine hcall.out.mono ?_
  rintro e w1 ⟨rfl, hb1⟩
  have hB2 := btr hB hb1
  clear hcall hb1 hB
  go_wp2_with fail
  go_ret
  exact ⟨rfl, hB2⟩

/-- A model: all clauses are true. -/
def modT (xss : List (List Int)) (b : Nat) : Bool := xss.all fun c => clT c b
def ClS (c : List Int) : Prop := (∀ l ∈ c, LitS l) ∧ c.length ≤ 1000
set_option maxRecDepth 100000 in
theorem isModel1_any (c : List Int) (hc : ClS c) (A : Option Addr) (cap b g : Nat) (hb : b < 2 ^ 62) (w : World) (hx : IntsAt w A c) (k0 : w.cell? ⟨g, 0, none⟩ = some (.int .i64 b)) :
    Calls Try.prog 86 #[.slice A c.length cap, .pointer (some ⟨g, 0, none⟩)] w fun e w' => e = .returned (.bool (!(clT c b))) ∧ Below w.heap.size w w' := by
  have hcall := Lib.hid (holds_any c hc.1 (by have := hc.2; omega) A cap b hb w hx)
  clear hx
  go_enter Try.func86, Try.ntmps86
  go_wp2_with fail
  refine hcall.out.mono ?_
  rintro e w1 ⟨rfl, hb1⟩
  clear hcall
  go_wp2_with fail
  go_ret
  exact ⟨rfl, hb1⟩

set_option maxRecDepth 100000 in
theorem isModel_any (xss : List (List Int)) (hc : ∀ c ∈ xss, ClS c) (hl : xss.length ≤ 1000000) (A : Option Addr) (cap b : Nat) (hb : b < 2 ^ 62) (w : World) (hx : ClsAt w A xss) :
    Calls Try.prog 47 #[.slice A xss.length cap, .int .i64 b] w fun e w' => e = .returned (.bool (modT xss b)) ∧ Below w.heap.size w w' := by
  have hB := bal (bb w) (.cells #[.int .i64 b] 3)
  have k0 : (w.alloc (.cells #[.int .i64 b] 3)).cell? ⟨w.heap.size, 0, none⟩ = some (.int .i64 b) := cell_of_row _ _ _ _ _ _ (heap_alloc_new w _)
  have eg : Enter1 86 := enters_of Try.func86 (by kernel_rfl) rfl
  have hf : FnS ClS (w.alloc (.cells #[.int .i64 b] 3)) 86 #[.pointer (some ⟨w.heap.size, 0, none⟩)] (fun c => !(clT c b)) := by
    intro x B cp W hI hx hbl
    exact isModel1_any x hx B cp b w.heap.size hb W hI (((bcell hbl).1 w.heap.size 0 (by simp)).trans k0)
  have hcall := Lib.hid (containsS_any eg xss A cap _ (hx.grow hB) hl hc hf)
  have hR : Hid (modT xss b = !(xss.any fun c => !(clT c b))) := by
    unfold Hid modT
    rw [List.all_eq_not_any_not]
  generalize (xss.any fun c => !(clT c b)) = q at *
  clear hx k0 eg hf
  go_enter Try.func47, Try.ntmps47
  go_wp2_with fail
  refine hcall.out.mono ?_
  rintro e w1 ⟨rfl, hb1⟩
  have hB2 := btr hB hb1
  clear hcall hb1 hB
  go_wp2_with fail
  go_ret
  exact ⟨ret_bool hR.out.symm, hB2⟩
end Go.Proofs.Ytkhopkonddgicaa

/- Contracts: all models in order, in the program. -/
namespace Go.Proofs.Ytkhopkonddgicaa
open Go.RowKit

theorem pow12 {v : Nat} (hv : v ≤ 12) : wrap64 ((2 : Int) ^ v) = ((2 ^ v : Nat) : Int) ∧ 2 ^ v ≤ 4096 := by
  match v, hv with
  | 0, _ | 1, _ | 2, _ | 3, _ | 4, _ | 5, _ | 6, _ | 7, _ | 8, _ | 9, _ | 10, _ | 11, _ | 12, _ => exact ⟨by unfold wrap64; decide, by decide⟩

set_option maxRecDepth 100000 in
set_option maxHeartbeats 4000000 in
theorem models_any {g : FuncId} {cb : Array Value} (eg : Enter1 g) (n : Nat) (hn : n ≤ 12) (xss : List (List Int)) (hc : ∀ c ∈ xss, ClS c) (hl : xss.length ≤ 1000000) (A : Option Addr) (cap : Nat) (w : World)
    (F : List Nat) (hF : ∀ b ∈ F, b < w.heap.size) (P : Nat → World → Prop) (h0 : P 0 w) (hgrow : ∀ k w w', P k w → Below w.heap.size w w' → P k w') (hcls : ∀ k w, P k w → ClsAt w A xss)
    (hnot : ∀ k w, modT xss k = false → P k w → P (k + 1) w)
    (hstep : ∀ k w, k < 2 ^ n → modT xss k = true → P k w → Calls Try.prog g (#[.int .i64 k] ++ cb) w fun e w' => ∃ q : Bool, e = .returned (.bool q) ∧ Chg F w w' ∧ (if q then P (k + 1) w' else P (2 ^ n) w')) :
    Calls Try.prog 43 #[.agg #[.int .i64 n, .slice A xss.length cap], .func (.func g) #[] cb] w fun e w' => e = .returned (.tuple #[]) ∧ P (2 ^ n) w' := by
  unfold Enter1 at eg
  obtain ⟨hsh, hp⟩ := pow12 hn
  generalize 2 ^ n = N at *
  have c0 : (w.alloc (.cells #[.int .i64 n, .slice A xss.length cap] 26)).cell? ⟨w.heap.size, 0, none⟩ = some (.int .i64 n) := cell_of_row _ _ _ _ _ _ (heap_alloc_new w _)
  have c1 : (w.alloc (.cells #[.int .i64 n, .slice A xss.length cap] 26)).cell? ⟨w.heap.size, 1, none⟩ = some (.slice A xss.length cap) := cell_of_row _ _ _ _ _ _ (heap_alloc_new w _)
  have HP0 := Lib.hid (hgrow 0 w _ h0 (bal (bb w) (.cells #[.int .i64 n, .slice A xss.length cap] 26)))
  have hFF : w.heap.size ∉ F := fun h => by have := hF _ h; omega
  replace hgrow := Lib.hid hgrow
  replace hcls := Lib.hid hcls
  replace hnot := Lib.hid hnot
  replace hstep := Lib.hid hstep
  have hcc := Lib.hid hc
  replace hFF := Lib.hid hFF
  clear h0 hc hF
  go_enter Try.func43, Try.ntmps43
  go_wp2_with fail
  rw [hsh]
  go_loopw [4, 8] (fun _ i wr => ∃ k : Nat, k ≤ N ∧ i = .int .i64 k ∧ wr.cell? ⟨w.heap.size, 1, none⟩ = some (.slice A xss.length cap) ∧ Hid (P k wr)) (fun _ i _ => N - (intOf i).toNat)
  case atStart => exact ⟨0, Nat.zero_le _, rfl, c1, HP0⟩
  case round =>
    obtain ⟨k, hk, rfl, d1, HP⟩ := hrel
    clear HP0 c0 c1
    by_cases hlt : k < N
    · have hcall := Lib.hid (isModel_any xss hcc.out hl A cap k (Nat.lt_of_lt_of_le hlt (Nat.le_trans hp (by decide))) wr (hcls.out k wr HP.out))
      cases hq : modT xss k
      · rw [hq] at hcall
        go_wp2_with fail
        refine hcall.out.mono ?_
        rintro e w1 ⟨rfl, hb1⟩
        have HP2 := Lib.hid (hnot.out k w1 hq (hgrow.out k wr w1 HP.out hb1))
        have d2 := ((bcell hb1).1 _ _ (World.block_lt_of_cell? _ _ d1)).trans d1
        clear hcall hb1 HP d1
        go_wp2_with fail
        go_roundw
        case rel => exact ⟨k + 1, by omega, by go_num, d2, HP2⟩
        case measure => simp [intOf]; omega
      · rw [hq] at hcall
        go_wp2_with fail
        refine hcall.out.mono ?_
        rintro e w1 ⟨rfl, hb1⟩
        have hst := Lib.hid (hstep.out k w1 hlt hq (hgrow.out k wr w1 HP.out hb1))
        have d2 := ((bcell hb1).1 _ _ (World.block_lt_of_cell? _ _ d1)).trans d1
        clear hcall hb1 HP d1
        go_wp2_with fail
        refine hst.out.mono ?_
        rintro e w2 ⟨q, rfl, hch, hP2⟩
        have d3 := (World.cell?_of_block (a := ⟨w.heap.size, 1, none⟩) (hch.block _ (World.block_lt_of_cell? _ _ d2) hFF.out)).trans d2
        cases q
        · replace hP2 := Lib.hid hP2
          clear hst hch d2
          go_wp2_with fail
          have hP3 : P N w2 := hP2.out
          exact bodyPost_ret (v := .tuple #[]) (by simp [results, Try.results43, go_sem]) rfl ⟨rfl, hP3⟩
        · have HP2 : Hid (P (k + 1) w2) := hP2
          clear hst hch d2 hP2
          go_wp2_with fail
          go_roundw
          case rel => exact ⟨k + 1, by omega, by go_num, d3, HP2⟩
          case measure => simp [intOf]; omega
    · obtain rfl : k = N := by omega
      go_wp2_with fail
      exact bodyPost_end (v := .tuple #[]) (by simp [results, Try.results43, go_sem]) rfl ⟨rfl, HP.out⟩
end Go.Proofs.Ytkhopkonddgicaa

/- Contracts: satisfiable Cnfs, counts of models, in the program. -/
namespace Go.Proofs.Ytkhopkonddgicaa
open Go.RowKit

/-- From a row of rows to clauses that can be read. -/
theorem cls_row {wr : Bool} {w : World} {v : Value} {xss : List (List Int)} {F : List Nat} (h : (Ty.slice Ty.int).row wr w v xss F) : ∃ A c, v = .slice A xss.length c ∧ ClsAt w A xss := by
  obtain ⟨a, cap, rfl, _, _, h3⟩ := row_slices h
  refine ⟨a, cap, rfl, ⟨fun j hj => ?_⟩⟩
  rcases h3 with ⟨rfl, _⟩ | ⟨_, b, off, rfl, _, hc⟩
  · exact absurd hj (by simp)
  · obtain ⟨u, Fk, hu, hr, _⟩ := hc j hj
    obtain ⟨B, c, rfl, hI⟩ := ints_row hr
    exact ⟨b, off, B, c, rfl, hu.1, hI⟩
theorem lit_small {vars l : Int} (hv : 0 ≤ vars ∧ vars ≤ 12) (h : litB vars l = true) : l ≠ 0 ∧ -vars ≤ l ∧ l ≤ vars := by
  unfold litB inB at h
  rw [negV_small (by unfold I64; omega) (by omega)] at h
  simp only [Bool.and_eq_true, decide_eq_true_eq, bne_iff_ne] at h
  omega
theorem clause_parts {vars : Int} {c : List Int} (h : clauseB vars c = true) : (0 ≤ vars ∧ vars ≤ 12) ∧ (∀ l ∈ c, l ≠ 0 ∧ -vars ≤ l ∧ l ≤ vars) ∧ ∀ i (h : i + 1 < c.length), c[i].natAbs < c[i + 1].natAbs := by
  unfold clauseB inB cOkTo at h
  simp only [Bool.and_eq_true, decide_eq_true_eq, List.all_eq_true, List.mem_range] at h
  obtain ⟨hv, hc⟩ := h
  have hlit : ∀ i (hi : i < c.length), litB vars c[i] = true := fun i hi => by
    have := hc i hi
    unfold cOk at this
    rw [Bool.and_eq_true, List.getD_eq_getElem?_getD, List.getElem?_eq_getElem hi] at this
    exact this.1
  refine ⟨hv, fun l hl => ?_, fun i hi => ?_⟩
  · obtain ⟨i, hi, rfl⟩ := List.getElem_of_mem hl
    exact lit_small hv (hlit i hi)
  · have h1 := hc (i + 1) hi
    unfold cOk at h1
    rw [Bool.and_eq_true, Bool.or_eq_true] at h1
    have h2 := h1.2
    simp only [beq_iff_eq, Nat.add_eq_zero_iff, Nat.succ_ne_self, and_false, false_or, decide_eq_true_eq, Nat.add_sub_cancel] at h2
    rw [List.getD_eq_getElem?_getD, List.getD_eq_getElem?_getD, List.getElem?_eq_getElem hi, List.getElem?_eq_getElem (by omega)] at h2
    simp only [Option.getD_some] at h2
    have a1 := lit_small hv (hlit i (by omega))
    have a2 := lit_small hv (hlit (i + 1) hi)
    rw [absV_lit ⟨a1.1, by omega, by omega⟩, absV_lit ⟨a2.1, by omega, by omega⟩] at h2
    omega
theorem clause_rising {vars : Int} {c : List Int} (h : clauseB vars c = true) : c.Pairwise (fun a b => a.natAbs < b.natAbs) := by
  have h3 := (clause_parts h).2.2
  clear h
  induction c with
  | nil => exact .nil
  | cons a c ih =>
    have hc := ih (fun i hi => by have := h3 (i + 1) (by simp; omega); simpa using this)
    refine List.pairwise_cons.2 ⟨fun b hb => ?_, hc⟩
    cases c with
    | nil => simp at hb
    | cons d c =>
      have h0 := h3 0 (by simp)
      simp only [List.getElem_cons_zero, List.getElem_cons_succ] at h0
      rcases List.mem_cons.1 hb with rfl | hb
      · exact h0
      · exact Nat.lt_trans h0 ((List.pairwise_cons.1 hc).1 b hb)
theorem rising_len {m : Nat} : ∀ {c : List Int} {k : Nat}, c.Pairwise (fun a b => a.natAbs < b.natAbs) → (∀ l ∈ c, k ≤ l.natAbs ∧ l.natAbs < k + m) → c.length ≤ m
  | [], _, _, _ => by simp
  | a :: c, k, hp, hb => by
    have ha := hb a (by simp)
    have hp' := List.pairwise_cons.1 hp
    have := rising_len (m := m - (a.natAbs - k) - 1) (k := a.natAbs + 1) hp'.2 (fun l hl => by have := hp'.1 l hl; have := hb l (by simp [hl]); omega)
    simp only [List.length_cons]
    omega
theorem clause_s {vars : Int} {c : List Int} (h : clauseB vars c = true) : ClS c := by
  have hp := clause_parts h
  refine ⟨fun l hl => ?_, ?_⟩
  · have := hp.2.1 l hl
    exact ⟨this.1, by omega, by omega⟩
  · have := rising_len (m := 12) (k := 1) (clause_rising h) (fun l hl => by have := hp.2.1 l hl; omega)
    omega
theorem good_cnf {vars : Int} {xss : List (List Int)} (h : goodB vars xss = true) : (0 ≤ vars ∧ vars ≤ 12) ∧ xss.length ≤ 60 ∧ (∀ c ∈ xss, clauseB vars c = true) ∧ ∀ c ∈ xss, ClS c := by
  unfold goodB inB at h
  simp only [Bool.and_eq_true, decide_eq_true_eq, List.all_eq_true] at h
  exact ⟨h.1.1, h.1.2, h.2, fun c hc => clause_s (h.2 c hc)⟩

/- left out: the seat has no impl.satisfiable -/

/- left out: the seat has no impl.IsSatisfiable -/
end Go.Proofs.Ytkhopkonddgicaa

/- Contracts: clauses and Cnfs at bits, in the reference. -/
namespace Go.Proofs.Ytkhopkonddgicaa
open Go.RowKit

theorem cl_next {c : List Int} {k : Nat} (hk : k < c.length) (b : Nat) : clT (c.take (k + 1)) b = (clT (c.take k) b || litT b c[k]) := by
  unfold clT
  rw [List.take_succ_eq_append_getElem hk, List.any_append]
  simp
theorem cl_take {c : List Int} {k b : Nat} (h : clT (c.take k) b = true) : clT c b = true := by
  unfold clT at *
  rw [List.any_eq_true] at *
  obtain ⟨x, hx, h⟩ := h
  exact ⟨x, List.mem_of_mem_take hx, h⟩
theorem md_next {xss : List (List Int)} {j : Nat} (hj : j < xss.length) (b : Nat) : modT (xss.take (j + 1)) b = (modT (xss.take j) b && clT xss[j] b) := by
  unfold modT
  rw [List.take_succ_eq_append_getElem hj, List.all_append]
  simp
theorem md_take {xss : List (List Int)} {j b : Nat} (h : modT (xss.take j) b = false) : modT xss b = false := by
  unfold modT at *
  rw [List.all_eq_false] at *
  obtain ⟨x, hx, h⟩ := h
  exact ⟨x, List.mem_of_mem_take hx, h⟩

/- left out: the seat has no spec.l5True -/

/- left out: the seat has no spec.l5All -/
end Go.Proofs.Ytkhopkonddgicaa

/- Contracts: models that are counted and the least one, in the reference. -/
namespace Go.Proofs.Ytkhopkonddgicaa
open Go.RowKit

def cntP (p : Nat → Bool) (k : Nat) : Nat := ((List.range k).filter p).length
theorem cntP_no {p : Nat → Bool} {k : Nat} (h : p k = false) : cntP p (k + 1) = cntP p k := by simp [cntP, List.range_succ, List.filter_append, h]
theorem cntP_yes {p : Nat → Bool} {k : Nat} (h : p k = true) : cntP p (k + 1) = cntP p k + 1 := by simp [cntP, List.range_succ, List.filter_append, h]
theorem cntP_le (p : Nat → Bool) (k : Nat) : cntP p k ≤ k := Nat.le_trans (List.length_filter_le _ _) (by simp)

/- left out: the seat has no spec.l5Models -/
end Go.Proofs.Ytkhopkonddgicaa

/- Contracts: how many bits make a circuit true, circuits of the same values, the value of a circuit. -/
namespace Go.Proofs.Ytkhopkonddgicaa
open Go.RowKit

/-- What is known of a valid circuit. -/
theorem circ_parts {n : Nat} {gs : List Gt} (h : circB n gs = true) : n ≤ 12 ∧ 0 < gs.length ∧ gs.length ≤ 200 ∧ OkG n gs := by
  unfold circB at h
  rw [Bool.and_eq_true, Bool.and_eq_true, inB_iff, inB_iff, gsB_ok] at h
  exact ⟨by omega, by omega, by omega, h.1.1⟩
theorem circ_of {n : Nat} {gs : List Gt} (hn : n ≤ 12) (h0 : 0 < gs.length) (h1 : gs.length ≤ 200) (h : OkG n gs) : circB n gs = true := by
  unfold circB
  rw [gsB_ok.2 h, inB_iff.2 ⟨by omega, by omega⟩, inB_iff.2 ⟨by omega, by omega⟩]; rfl
theorem valueG {n : Nat} {gs : List Gt} (h : circB n gs = true) (A : Option Addr) (c b : Nat) (hb : b < 4096) (w : World) (hx : GtAt w A gs) :
    Calls Try.prog 42 #[.slice A gs.length c, .int .i64 b] w fun e w' => e = .returned (.bool (cval gs b)) ∧ Below w.heap.size w w' := by
  obtain ⟨_, h0, h1, h2⟩ := circ_parts h
  exact circuitValue_any b A c gs w hx h2 (by omega) h0 (Nat.lt_trans hb (by decide))

set_option maxRecDepth 100000 in
set_option maxHeartbeats 4000000 in
theorem countTrue_any (n : Nat) (A : Option Addr) (c : Nat) (gs : List Gt) (w : World) (hg : circB n gs = true) (hx : GtAt w A gs) :
    Calls Try.prog 11 #[.int .i64 n, .slice A gs.length c] w fun e w' => e = .returned (.tuple #[.int .i64 (cntP (cval gs) (2 ^ n)), .bool true]) ∧ Below w.heap.size w w' := by
  have hp0 := circ_parts hg
  have hn12 : n ≤ 12 := hp0.1
  obtain ⟨hsh, hp⟩ := pow12 hn12
  have hcall0 := isCircuit_any n A c gs w hx (by omega)
  rw [hg] at hcall0
  replace hcall0 := Lib.hid hcall0
  have hcall := Lib.hid (fun b (hb : b < 4096) W (h : Below w.heap.size w W) => valueG hg A c b hb W (hx.grow h))
  have hcl := Lib.hid (cntP_le (cval gs))
  have hz : Hid ((cntP (cval gs) 0) = 0) := rfl
  have hno := Lib.hid (fun k => cntP_no (p := cval gs) (k := k))
  have hyes := Lib.hid (fun k => cntP_yes (p := cval gs) (k := k))
  generalize cval gs = P at *
  obtain ⟨N, hN⟩ : ∃ N, 2 ^ n = N := ⟨_, rfl⟩
  rw [hN] at hsh hp ⊢
  have hn0 : (0 : Int) ≤ n := by omega
  clear hx hN hp0 hg
  go_enter Try.func11, Try.ntmps11
  go_wp2_with fail
  refine hcall0.out.mono ?_
  rintro e w1 ⟨rfl, hb1⟩
  replace hb1 := Lib.hid hb1
  clear hcall0
  go_wp2_with fail
  try rw [hsh]
  go_loopw [6, 14] (fun vc i wr => ∃ (k x : Nat), k ≤ N ∧ i = .int .i64 k ∧ vc = .int .i64 x ∧ Hid (cntP P k = x) ∧ Hid (Below w.heap.size w wr)) (fun _ i _ => N - (intOf i).toNat)
  case atStart => exact ⟨0, 0, Nat.zero_le _, rfl, rfl, hz, hb1⟩
  case round =>
    obtain ⟨k, x, hk, rfl, rfl, hxx, HB⟩ := hrel
    have hxl : x ≤ 4096 := by have := hcl.out k; rw [hxx.out] at this; omega
    by_cases hlt : k < N
    · have hc := Lib.hid (hcall.out k (by omega) wr HB.out)
      have h1 := Lib.hid (hno.out k)
      have h2 := Lib.hid (hyes.out k)
      obtain ⟨q, hq⟩ : ∃ q, P k = q := ⟨_, rfl⟩
      rw [hq] at hc h1 h2
      clear hq
      go_wp2_with fail
      refine hc.out.mono ?_
      rintro e w2 ⟨rfl, hb2⟩
      have HB2 := Lib.hid (btr HB.out hb2)
      clear HB hb2 hc
      cases q
      · have h3 : Hid (cntP P (k + 1) = x) := by unfold Hid; rw [h1.out rfl]; exact hxx.out
        clear h1 h2 hxx
        go_wp2_with fail
        go_roundw
        case rel => exact ⟨k + 1, x, by omega, by go_num, rfl, h3, HB2⟩
        case measure => simp [intOf]; omega
      · have h3 : Hid (cntP P (k + 1) = x + 1) := by unfold Hid; rw [h2.out rfl, hxx.out]
        have hxi : IntKind.i64.wrap ((x : Int) + 1) = ((x + 1 : Nat) : Int) := by rw [IntWalk.i64_in _ (by omega)]; omega
        clear h1 h2 hxx
        go_wp2_with fail
        go_roundw
        case rel => exact ⟨k + 1, x + 1, by omega, by go_num, by first | rfl | go_num, h3, HB2⟩
        case measure => simp [intOf]; omega
    · obtain rfl : k = N := by omega
      clear hno hyes hcl hcall
      go_wp2_with fail
      go_ret2
      exact ⟨by rw [hxx.out]; try rfl, HB.out⟩

set_option maxRecDepth 100000 in
set_option maxHeartbeats 4000000 in
theorem firstDiff_any (n : Nat) (A A' : Option Addr) (c c' : Nat) (gs hs : List Gt) (w : World) (hg : circB n gs = true) (hh : circB n hs = true) (hx : GtAt w A gs) (hy : GtAt w A' hs) (hsame : ∀ b, b < 2 ^ n → cval gs b = cval hs b) :
    Calls Try.prog 49 #[.int .i64 n, .slice A gs.length c, .slice A' hs.length c'] w fun e w' => e = .returned (.int .i64 (-1)) ∧ Below w.heap.size w w' := by
  have hp0 := circ_parts hg
  have hn12 : n ≤ 12 := hp0.1
  obtain ⟨hsh, hp⟩ := pow12 hn12
  have hcall := Lib.hid (fun b (hb : b < 4096) W (h : Below w.heap.size w W) => valueG hg A c b hb W (hx.grow h))
  have hcall2 := Lib.hid (fun b (hb : b < 4096) W (h : Below w.heap.size w W) => valueG hh A' c' b hb W (hy.grow h))
  replace hsame := Lib.hid hsame
  generalize cval gs = P at *
  generalize cval hs = Q at *
  generalize 2 ^ n = N at *
  have hn0 : (0 : Int) ≤ n := by omega
  have hB0 : Hid (Below w.heap.size w w) := Lib.hid (bb w)
  clear hx hy hp0 hg hh
  go_enter Try.func49, Try.ntmps49
  go_wp2_with fail
  try rw [hsh]
  go_loopw [10] (fun i wr => ∃ k : Nat, k ≤ N ∧ i = .int .i64 k ∧ Hid (Below w.heap.size w wr)) (fun i _ => N - (intOf i).toNat)
  case atStart => exact ⟨0, Nat.zero_le _, rfl, hB0⟩
  case round =>
    obtain ⟨k, hk, rfl, HB⟩ := hrel
    by_cases hlt : k < N
    · have hc := Lib.hid (hcall.out k (by omega) wr HB.out)
      have hc2 := Lib.hid (fun W h => hcall2.out k (by omega) W h)
      rw [hsame.out k hlt] at hc
      obtain ⟨q, hq⟩ : ∃ q, Q k = q := ⟨_, rfl⟩
      rw [hq] at hc hc2
      clear hq
      go_wp2_with fail
      refine hc.out.mono ?_
      rintro e w2 ⟨rfl, hb2⟩
      have HB2 := Lib.hid (btr HB.out hb2)
      clear HB hb2 hc
      go_wp2_with fail
      refine (hc2.out _ HB2.out).mono ?_
      rintro e w3 ⟨rfl, hb3⟩
      have HB3 := Lib.hid (btr HB2.out hb3)
      clear HB2 hb3 hc2
      cases q
      all_goals
        go_wp2_with fail
        go_roundw
        case rel => exact ⟨k + 1, by omega, by go_num, HB3⟩
        case measure => simp [intOf]; omega
    · obtain rfl : k = N := by omega
      go_wp2_with fail
      go_ret
      exact ⟨rfl, HB.out⟩

set_option maxHeartbeats 2000000 in
theorem sameValues_any (n : Nat) (A A' : Option Addr) (c c' : Nat) (gs hs : List Gt) (w : World) (hg : circB n gs = true) (hh : circB n hs = true) (hx : GtAt w A gs) (hy : GtAt w A' hs) (hsame : ∀ b, b < 2 ^ n → cval gs b = cval hs b) :
    Calls Try.prog 16 #[.int .i64 n, .slice A gs.length c, .slice A' hs.length c'] w fun e w' => e = .returned (.tuple #[.bool true, .bool true]) ∧ Below w.heap.size w w' := by
  have h1 := isCircuit_any n A c gs w hx (by have := circ_parts hg; omega)
  have h2 := fun W (h : Below w.heap.size w W) => isCircuit_any n A' c' hs W (hy.grow h) (by have := circ_parts hh; omega)
  have h3 := Lib.hid (fun W (h : Below w.heap.size w W) => firstDiff_any n A A' c c' gs hs W hg hh (hx.grow h) (hy.grow h) hsame)
  rw [hg] at h1
  rw [hh] at h2
  replace h1 := Lib.hid h1
  replace h2 := Lib.hid h2
  clear hx hy hsame hg hh
  go_enter Try.func16, Try.ntmps16
  go_wp2_with fail
  refine h1.out.mono ?_
  rintro e w1 ⟨rfl, hb1⟩
  go_wp2_with fail
  refine (h2.out _ hb1).mono ?_
  rintro e w2 ⟨rfl, hb2⟩
  have hB2 := btr hb1 hb2
  go_wp2_with fail
  refine (h3.out _ hB2).mono ?_
  rintro e w3 ⟨rfl, hb3⟩
  have hB3 := btr hB2 hb3
  go_wp2_with fail
  go_ret2
  exact ⟨rfl, hB3⟩

set_option maxRecDepth 100000 in
set_option maxHeartbeats 1000000 in
theorem bitsOkG (n : Nat) (hn : n ≤ 12) (m : Nat) (hm : m < 2 ^ n) (w : World) : Calls Try.prog 45 #[.int .i64 n, .int .i64 m] w fun e w' => e = .returned (.bool true) ∧ Below w.heap.size w w' := by
  obtain ⟨hsh, hp⟩ := pow12 hn
  have hN1 : 1 ≤ 2 ^ n := Nat.one_le_two_pow
  have hin : inB (m : Int) 0 (((2 ^ n : Nat) : Int) - 1) = true := inB_iff.2 ⟨by omega, by omega⟩
  have hn0 : (0 : Int) ≤ n := by omega
  generalize 2 ^ n = N at *
  have hw1 : IntKind.i64.wrap ((N : Int) - 1) = (N : Int) - 1 := IntWalk.i64_in _ (by omega)
  go_enter Try.func45, Try.ntmps45
  go_wp2_with fail
  try rw [hsh]
  try rw [hw1]
  refine (withinG hin _).mono ?_
  rintro e w1 ⟨rfl, hb1⟩
  go_wp2_with fail
  go_ret
  exact ⟨rfl, hb1⟩

set_option maxHeartbeats 2000000 in
theorem circuitValueM_any (n b : Nat) (A : Option Addr) (c : Nat) (gs : List Gt) (w : World) (hg : circB n gs = true) (hx : GtAt w A gs) (hb : b < 2 ^ n) :
    Calls Try.prog 13 #[.int .i64 n, .slice A gs.length c, .int .i64 b] w fun e w' => e = .returned (.tuple #[.bool (cval gs b), .bool true]) ∧ Below w.heap.size w w' := by
  have hp0 := circ_parts hg
  obtain ⟨-, hp⟩ := pow12 hp0.1
  have h1 := isCircuit_any n A c gs w hx (by omega)
  rw [hg] at h1
  replace h1 := Lib.hid h1
  have h2 := Lib.hid (fun W => bitsOkG n hp0.1 b hb W)
  have h3 := Lib.hid (fun W (h : Below w.heap.size w W) => valueG hg A c b (by omega) W (hx.grow h))
  generalize cval gs b = q at *
  clear hx hg hp0 hb hp
  go_enter Try.func13, Try.ntmps13
  go_wp2_with fail
  refine h1.out.mono ?_
  rintro e w1 ⟨rfl, hb1⟩
  go_wp2_with fail
  refine (h2.out _).mono ?_
  rintro e w2 ⟨rfl, hb2⟩
  have hB2 := btr hb1 hb2
  go_wp2_with fail
  refine (h3.out _ hB2).mono ?_
  rintro e w3 ⟨rfl, hb3⟩
  have hB3 := btr hB2 hb3
  go_wp2_with fail
  go_ret2
  exact ⟨rfl, hB3⟩
end Go.Proofs.Ytkhopkonddgicaa

/- Contract: the number of a gate among gates (slices.Index). -/
namespace Go.Proofs.Ytkhopkonddgicaa
open Go.RowKit

def idxG (ns : List Gt) (n : Gt) : Int := if n ∈ ns then (ns.idxOf n : Nat) else -1
theorem idxG_here {ns : List Gt} {n : Gt} {k : Nat} (hk : k < ns.length) (h : n ∉ ns.take k) (e : ns[k] = n) : idxG ns n = k := by
  unfold idxG
  have hmem : n ∈ ns := e ▸ List.getElem_mem hk
  rw [if_pos hmem]
  have h1 : ns.idxOf n = k := by
    have h2 : ns = ns.take k ++ ns.drop k := (List.take_append_drop k ns).symm
    rw [h2, List.idxOf_append, if_neg h, List.length_take, Nat.min_eq_left (Nat.le_of_lt hk), ← List.getElem_cons_drop hk, e]
    simp
  rw [h1]
theorem idxG_next {ns : List Gt} {n : Gt} {k : Nat} (hk : k < ns.length) (h : n ∉ ns.take k) (e : ns[k] ≠ n) : n ∉ ns.take (k + 1) := by
  rw [List.take_succ_eq_append_getElem hk]
  simp only [List.mem_append, List.mem_singleton, not_or]
  exact ⟨h, fun h2 => e h2.symm⟩

theorem gt_guard : Try.prog.eqGuardType Try.prog.depth 41 = false := by kernel_rfl
theorem gt_held : Try.prog.stoodInHeld 41 = false := by kernel_rfl
theorem gt_fields : Try.prog.underlying 41 = some (.struct (Try.prog.fieldsOf 41)) := by kernel_rfl
theorem eql_gt (a b : Gt) (w : World) : (binOp .eql 41 (gtV a) (gtV b)).run Try.prog w = .ok (.bool (a.k == b.k && a.a == b.a && a.b == b.b)) w := by
  rw [run_eql_struct, run_equalIn_agg w 9999 _ _ _ gt_fields gt_held]
  simp only [Program.fieldsOf, Try.underlying41]
  go_simp
  by_cases h1 : a.k = b.k <;> by_cases h2 : a.a = b.a <;> by_cases h3 : a.b = b.b <;> simp [h1, h2, h3]
theorem gt_eqB (a b : Gt) : (a.k == b.k && a.a == b.a && a.b == b.b) = decide (a = b) := by
  obtain ⟨x, y, z⟩ := a
  obtain ⟨x', y', z'⟩ := b
  simp only [Gt.mk.injEq]
  by_cases h1 : x = x' <;> by_cases h2 : y = y' <;> by_cases h3 : z = z' <;> simp [h1, h2, h3]

set_option maxRecDepth 100000 in
set_option maxHeartbeats 4000000 in
theorem indexGt_any (n : Gt) (A : Option Addr) (c : Nat) (ns : List Gt) (w : World) (hx : GtAt w A ns) (hl : ns.length ≤ 1000000) :
    Calls Try.prog 126 #[.slice A ns.length c, gtV n] w fun e w' => e = .returned (.int .i64 (idxG ns n)) ∧ Below w.heap.size w w' := by
  obtain ⟨v, lo, hi⟩ := n
  have S0 := Lib.hid ((Sp.start w).alloc_box #[.int .i64 v, .int .i64 lo, .int .i64 hi] 41)
  have hN := Lib.hid hx
  clear hx
  go_enter Try.func126, Try.ntmps126
  go_wp2_with fail
  go_loopw [8] (fun i wr => ∃ k : Nat, k ≤ ns.length ∧ i = .int .i64 k ∧ Hid ((⟨v, lo, hi⟩ : Gt) ∉ ns.take k) ∧ Hid (Sp w wr [Box w.heap.size 41 #[.int .i64 v, .int .i64 lo, .int .i64 hi]])) (fun i _ => ns.length - (intOf i).toNat)
  case atStart => exact ⟨0, Nat.zero_le _, rfl, by unfold Hid; simp, S0⟩
  case round =>
    obtain ⟨k, hk, rfl, HD, HS⟩ := hrel
    clear S0
    by_cases hlt : k < ns.length
    · obtain ⟨b, off, rfl, m0, m1, m2⟩ := (hN.out.grow HS.out.below).at_ k hlt
      have k0 := cell_regrown m0
      have k1 := cell_regrown m1
      have k2 := cell_regrown m2
      have c0 := cell_regrown (HS.out.cell (i := 0) rfl (o := 0) rfl)
      have c1 := cell_regrown (HS.out.cell (i := 0) rfl (o := 1) rfl)
      have c2 := cell_regrown (HS.out.cell (i := 0) rfl (o := 2) rfl)
      have hyes := Lib.hid (idxG_here hlt HD.out)
      have hno := Lib.hid (idxG_next hlt HD.out)
      generalize ns[k] = m at *
      obtain ⟨v', lo', hi'⟩ := m
      dsimp only at *
      clear m0 m1 m2
      have hst := gt_held
      have hgu := gt_guard
      by_cases e : (⟨v', lo', hi'⟩ : Gt) = ⟨v, lo, hi⟩
      · have hR := Lib.hid (hyes.out e)
        cases e
        clear hyes hno HD
        go_wp2_with fail
        refine wp_region_quiet_below (by kernel_rfl) (by kernel_rfl) ?_
        repeat (any_goals (go_big_quiet_step (fail)))
        refine wpQuiet_nil ?_
        rintro w1 ⟨p, rfl⟩
        have HS2 := Lib.hid (HS.out.grow (below_regrown _ p.d p.os))
        clear HS k0 k1 k2 c0 c1 c2
        go_wp2_with fail
        go_ret
        exact ⟨ret_int hR.out.symm, HS2.out.below⟩
      · have hD := Lib.hid (hno.out e)
        have hcase : (¬ v = v') ∨ (v = v' ∧ ¬ lo = lo') ∨ (v = v' ∧ lo = lo' ∧ ¬ hi = hi') := by
          by_cases h1 : v = v'
          · by_cases h2 : lo = lo'
            · exact .inr (.inr ⟨h1, h2, fun h3 => e (by rw [h1, h2, h3])⟩)
            · exact .inr (.inl ⟨h1, h2⟩)
          · exact .inl h1
        clear hyes hno HD e
        rcases hcase with hne | ⟨rfl, hne⟩ | ⟨rfl, rfl, hne⟩
        all_goals
          go_wp2_with fail
          refine wp_region_quiet_below (by kernel_rfl) (by kernel_rfl) ?_
          repeat (any_goals (go_big_quiet_step (fail)))
          refine wpQuiet_nil ?_
          rintro w1 ⟨p, rfl⟩
          have HS2 := Lib.hid (HS.out.grow (below_regrown _ p.d p.os))
          clear HS k0 k1 k2 c0 c1 c2
          go_wp2_with fail
          go_roundw
          case rel => exact ⟨k + 1, by omega, by go_num, hD, HS2⟩
          case measure => simp [intOf]; omega
    · obtain rfl : k = ns.length := by omega
      have hR : Hid (idxG ns ⟨v, lo, hi⟩ = -1) := by
        unfold Hid idxG
        have := HD.out
        rw [List.take_length] at this
        rw [if_neg this]
      have hB := HS.out.below
      clear HD HS
      go_wp2_with fail
      go_ret
      exact ⟨ret_int hR.out.symm, hB⟩
end Go.Proofs.Ytkhopkonddgicaa

/- Plain facts: folding keeps each gate once, and the values. No program in sight. -/
namespace Go.Proofs.Ytkhopkonddgicaa

def keepG (K : List Gt) (g : Gt) : List Gt × Nat := if g ∈ K then (K, K.idxOf g) else (K ++ [g], K.length)
def kindG (K : List Gt) (i : Int) : Int := (K.getD i.toNat ⟨0, 0, 0⟩).k
def pairG (K : List Gt) (g : Gt) (d n : Int) : List Gt × Nat :=
  if kindG K g.a = d then (K, g.a.toNat) else if kindG K g.b = d then (K, g.b.toNat) else if kindG K g.a = n then (K, g.b.toNat)
  else if kindG K g.b = n ∨ g.a = g.b then (K, g.a.toNat) else keepG K g
def foldG (K : List Gt) (g : Gt) : List Gt × Nat :=
  if g.k = 4 then
    if kindG K g.a = 2 then keepG K ⟨3, 0, 0⟩ else if kindG K g.a = 3 then keepG K ⟨2, 0, 0⟩
    else if kindG K g.a = 4 then (K, (K.getD g.a.toNat ⟨0, 0, 0⟩).a.toNat) else keepG K g
  else if g.k = 5 then pairG K g 3 2 else if g.k = 6 then pairG K g 2 3 else keepG K g
/-- What a folded gate is. -/
structure Folded (vars : Int) (K : List Gt) (g : Gt) (q : List Gt × Nat) : Prop where
  pre : ∃ ms, q.1 = K ++ ms
  len : q.1.length ≤ K.length + 1
  ok : OkG vars q.1
  lt : q.2 < q.1.length
  val : ∀ bits, gval bits q.1 q.2 = gv bits (gval bits K) g
theorem keep_ok {vars : Int} {K : List Gt} {g : Gt} (h : OkG vars K) (hg : gtB vars K.length g = true) : Folded vars K g (keepG K g) := by
  unfold keepG
  by_cases hin : g ∈ K
  · rw [if_pos hin]
    have hi := List.idxOf_lt_length_of_mem hin
    refine ⟨⟨[], by simp⟩, by dsimp only; omega, h, hi, fun bits => ?_⟩
    have := h.val bits hi
    rwa [List.getElem_idxOf hi] at this
  · rw [if_neg hin]
    exact ⟨⟨[g], rfl⟩, by simp, h.snoc hg, by simp, fun bits => gval_new bits K g⟩
theorem here_ok {vars : Int} {K : List Gt} {g : Gt} {r : Nat} (h : OkG vars K) (hr : r < K.length) (hv : ∀ bits, gval bits K r = gv bits (gval bits K) g) : Folded vars K g (K, r) :=
  ⟨⟨[], by simp⟩, by dsimp only; omega, h, hr, hv⟩
theorem kind_at {K : List Gt} {i : Int} (h : i.toNat < K.length) : kindG K i = K[i.toNat].k := by
  unfold kindG; rw [List.getD_eq_getElem?_getD, List.getElem?_eq_getElem h]; rfl
theorem val_true {vars : Int} {K : List Gt} {i : Int} (h : OkG vars K) (hi : i.toNat < K.length) (hk : kindG K i = 2) (bits : Nat) : gval bits K i.toNat = true := by
  rw [kind_at hi] at hk
  rw [h.val bits hi]; simp [gv, hk]
theorem val_false {vars : Int} {K : List Gt} {i : Int} (h : OkG vars K) (hi : i.toNat < K.length) (hk : kindG K i = 3) (bits : Nat) : gval bits K i.toNat = false := by
  rw [kind_at hi] at hk
  rw [h.val bits hi]; simp [gv, hk]
theorem fold_ok {vars : Int} {K : List Gt} {g : Gt} (h : OkG vars K) (hg : gtB vars K.length g = true) : Folded vars K g (foldG K g) := by
  have hins := ins_lt hg
  unfold insG at hins
  unfold foldG
  by_cases h4 : g.k = 4
  · rw [if_pos h4] at hins ⊢
    have ha := hins _ (List.mem_singleton.2 rfl)
    have hv : ∀ bits, gv bits (gval bits K) g = !gval bits K g.a.toNat := fun bits => by simp [gv, h4]
    by_cases k2 : kindG K g.a = 2
    · rw [if_pos k2]
      have := keep_ok h (show gtB vars K.length ⟨3, 0, 0⟩ = true from rfl)
      exact ⟨this.pre, this.len, this.ok, this.lt, fun bits => by rw [this.val, hv, val_true h ha k2]; rfl⟩
    rw [if_neg k2]
    by_cases k3 : kindG K g.a = 3
    · rw [if_pos k3]
      have := keep_ok h (show gtB vars K.length ⟨2, 0, 0⟩ = true from rfl)
      exact ⟨this.pre, this.len, this.ok, this.lt, fun bits => by rw [this.val, hv, val_false h ha k3]; rfl⟩
    rw [if_neg k3]
    by_cases k4 : kindG K g.a = 4
    · rw [if_pos k4]
      have hd : K.getD g.a.toNat ⟨0, 0, 0⟩ = K[g.a.toNat] := by rw [List.getD_eq_getElem?_getD, List.getElem?_eq_getElem ha]; rfl
      rw [kind_at ha] at k4
      have hlt : K[g.a.toNat].a.toNat < g.a.toNat := ins_lt (h _ ha) _ (by unfold insG; rw [if_pos k4]; exact List.mem_singleton.2 rfl)
      rw [hd]
      refine here_ok h (by omega) fun bits => ?_
      rw [hv, h.val bits ha]
      simp [gv, k4]
    · rw [if_neg k4]; exact keep_ok h hg
  rw [if_neg h4] at hins ⊢
  by_cases h5 : g.k = 5
  · rw [if_pos h5]
    rw [if_pos (.inl h5)] at hins
    have ha := hins g.a.toNat (by simp)
    have hb := hins g.b.toNat (by simp)
    have hv : ∀ bits, gv bits (gval bits K) g = (gval bits K g.a.toNat && gval bits K g.b.toNat) := fun bits => by simp [gv, h5]
    unfold pairG
    by_cases k1 : kindG K g.a = 3
    · rw [if_pos k1]; exact here_ok h ha fun bits => by rw [hv, val_false h ha k1]; rfl
    rw [if_neg k1]
    by_cases k2 : kindG K g.b = 3
    · rw [if_pos k2]; exact here_ok h hb fun bits => by rw [hv, val_false h hb k2, Bool.and_false]
    rw [if_neg k2]
    by_cases k3 : kindG K g.a = 2
    · rw [if_pos k3]; exact here_ok h hb fun bits => by rw [hv, val_true h ha k3, Bool.true_and]
    rw [if_neg k3]
    by_cases k4 : kindG K g.b = 2 ∨ g.a = g.b
    · rw [if_pos k4]
      refine here_ok h ha fun bits => ?_
      rcases k4 with k4 | k4
      · rw [hv, val_true h hb k4, Bool.and_true]
      · rw [hv, ← k4, Bool.and_self]
    rw [if_neg k4]; exact keep_ok h hg
  rw [if_neg h5]
  by_cases h6 : g.k = 6
  · rw [if_pos h6]
    rw [if_pos (.inr h6)] at hins
    have ha := hins g.a.toNat (by simp)
    have hb := hins g.b.toNat (by simp)
    have hv : ∀ bits, gv bits (gval bits K) g = (gval bits K g.a.toNat || gval bits K g.b.toNat) := fun bits => by simp [gv, h6]
    unfold pairG
    by_cases k1 : kindG K g.a = 2
    · rw [if_pos k1]; exact here_ok h ha fun bits => by rw [hv, val_true h ha k1]; rfl
    rw [if_neg k1]
    by_cases k2 : kindG K g.b = 2
    · rw [if_pos k2]; exact here_ok h hb fun bits => by rw [hv, val_true h hb k2, Bool.or_true]
    rw [if_neg k2]
    by_cases k3 : kindG K g.a = 3
    · rw [if_pos k3]; exact here_ok h hb fun bits => by rw [hv, val_false h ha k3, Bool.false_or]
    rw [if_neg k3]
    by_cases k4 : kindG K g.b = 3 ∨ g.a = g.b
    · rw [if_pos k4]
      refine here_ok h ha fun bits => ?_
      rcases k4 with k4 | k4
      · rw [hv, val_false h hb k4, Bool.or_false]
      · rw [hv, ← k4, Bool.or_self]
    rw [if_neg k4]; exact keep_ok h hg
  rw [if_neg h6]; exact keep_ok h hg

/-- Gates are folded one after the other: the kept ones, and what each became. -/
def foldsG (gs : List Gt) : List Gt × List Nat := gs.foldl (fun s g => let q := foldG s.1 (mvG (fun k => s.2.getD k 0) g); (q.1, s.2 ++ [q.2])) ([], [])
theorem folds_snoc (gs : List Gt) (g : Gt) : foldsG (gs ++ [g]) = ((foldG (foldsG gs).1 (mvG (fun k => (foldsG gs).2.getD k 0) g)).1, (foldsG gs).2 ++ [(foldG (foldsG gs).1 (mvG (fun k => (foldsG gs).2.getD k 0) g)).2]) := by
  unfold foldsG; rw [List.foldl_append]; rfl
structure FInv (vars : Int) (gs : List Gt) (s : List Gt × List Nat) : Prop where
  n : s.2.length = gs.length
  len : s.1.length ≤ gs.length
  ok : OkG vars s.1
  lt : ∀ i, i < gs.length → s.2.getD i 0 < s.1.length
  val : ∀ i, i < gs.length → ∀ bits, gval bits s.1 (s.2.getD i 0) = gval bits gs i
theorem finv_snoc {vars : Int} {gs : List Gt} {g : Gt} (h : FInv vars gs (foldsG gs)) (hg : gtB vars gs.length g = true) : FInv vars (gs ++ [g]) (foldsG (gs ++ [g])) := by
  have hlt := ins_lt hg
  have hm : gtB vars (foldsG gs).1.length (mvG (fun k => (foldsG gs).2.getD k 0) g) = true := mv_ok hg fun k hk => h.lt k (hlt k hk)
  have hf := fold_ok h.ok hm
  rw [folds_snoc]
  generalize foldG (foldsG gs).1 (mvG (fun k => (foldsG gs).2.getD k 0) g) = q at hf
  generalize foldsG gs = s at *
  obtain ⟨K', r⟩ := q
  obtain ⟨ms, hms⟩ := hf.pre
  have hval := hf.val
  have hlen := hf.len
  have hrl := hf.lt
  have hn := h.n
  have hl := h.len
  dsimp only at hms hval hlen hrl ⊢
  have old : ∀ i, i < gs.length → (s.2 ++ [r]).getD i 0 = s.2.getD i 0 := fun i hi => by
    rw [List.getD_eq_getElem?_getD, List.getElem?_append_left (by omega), ← List.getD_eq_getElem?_getD]
  have new : (s.2 ++ [r]).getD gs.length 0 = r := by
    rw [List.getD_eq_getElem?_getD, ← hn, List.getElem?_concat_length]; rfl
  refine ⟨by dsimp only; simp; omega, by dsimp only; simp; omega, hf.ok, fun i hi => ?_, fun i hi bits => ?_⟩
  · rw [List.length_append, List.length_singleton] at hi
    dsimp only
    by_cases e : i < gs.length
    · rw [old i e, hms, List.length_append]
      have := h.lt i e
      omega
    · obtain rfl : i = gs.length := by omega
      rw [new]; exact hrl
  · rw [List.length_append, List.length_singleton] at hi
    dsimp only
    by_cases e : i < gs.length
    · rw [old i e, hms, gval_pre (h.lt i e), gval_snoc e]
      exact h.val i e bits
    · obtain rfl : i = gs.length := by omega
      rw [new, hval, gval_new]
      exact mv_val fun k hk => h.val k (hlt k hk) bits
theorem finv {vars : Int} : ∀ (gs : List Gt), OkG vars gs → FInv vars gs (foldsG gs) := by
  intro gs
  induction gs using snoc_ind with
  | h0 => intro _; exact ⟨rfl, Nat.le_refl _, fun i hi => absurd hi (by simp [foldsG]), fun i hi => absurd hi (by simp), fun i hi => absurd hi (by simp)⟩
  | h1 gs g ih =>
    intro h
    have h1 : OkG vars gs := by
      have := h.take gs.length
      rwa [List.take_left] at this
    have h2 : gtB vars gs.length g = true := by
      have := h gs.length (by simp)
      rwa [List.getElem_concat_length rfl] at this
    exact finv_snoc (ih h1) h2
end Go.Proofs.Ytkhopkonddgicaa

/- Contract: a gate is kept, once. -/
namespace Go.Proofs.Ytkhopkonddgicaa
open Go.RowKit

theorem infoGt : (Try.prog.info? 41).map (fun i => (i.zero, i.size, i.bytes)) = some (some (.agg #[.int .i64 0, .int .i64 0, .int .i64 0]), 3, 24) := by kernel_rfl
theorem Src.threeG {w : World} {b : Nat} {x y z : Value} (h0 : w.cell? ⟨b, 0, none⟩ = some x) (h1 : w.cell? ⟨b, 1, none⟩ = some y) (h2 : w.cell? ⟨b, 2, none⟩ = some z) : Src w (some ⟨b, 0, none⟩) 1 3 [x, y, z] :=
  .inr ⟨_, rfl, rfl, fun j u hj => by
    match j, hj with
    | 0, hj => simp at hj; subst hj; rw [add_none]; exact h0
    | 1, hj => simp at hj; subst hj; rw [add_none]; exact h1
    | 2, hj => simp at hj; subst hj; rw [add_none]; exact h2⟩
/-- What a folder holds. -/
abbrev FoldSp (w0 : World) (p : Nat) (sv : Value) (M : List Gt) (ps : List Asn) (w : World) : Prop :=
  Sp w0 w (Box p 91 #[sv] :: Own 41 3 sv M.length (M.flatMap gtEnc) :: ps)

set_option maxRecDepth 100000 in
set_option maxHeartbeats 8000000 in
theorem keep_any {w0 : World} {ps : List Asn} (p : Nat) (sv : Value) (M : List Gt) (g : Gt) (w : World) (hok : ∀ x ∈ M, gtOk x) (hl : M.length ≤ 1000) (HS : FoldSp w0 p sv M ps w) :
    Calls Try.prog 113 #[.pointer (some ⟨p, 0, none⟩), gtV g] w fun e w' => ∃ sv', e = .returned (.int .i64 ((keepG M g).2 : Nat)) ∧ FoldSp w0 p sv' (keepG M g).1 ps w' := by
  obtain ⟨k, a, b⟩ := g
  obtain ⟨A, c, rfl, hN⟩ := gt_own (HS.own (i := 1) rfl) hok
  have S3 := HS.alloc_box #[.int .i64 k, .int .i64 a, .int .i64 b] 41
  have hpl := (S3.box (i := 1) rfl).2.1
  have hps := (HS.box (i := 0) rfl).2.1
  have hix := Lib.hid (fun W (h : Below w.heap.size w W) => indexGt_any ⟨k, a, b⟩ A c M W (hN.grow h) (by omega))
  have d0 := cell_regrown (S3.cell (i := 0) rfl (o := 0) rfl)
  have d1 := cell_regrown (S3.cell (i := 0) rfl (o := 1) rfl)
  have d2 := cell_regrown (S3.cell (i := 0) rfl (o := 2) rfl)
  have e2 := cell_regrown (S3.cell (i := 1) rfl (o := 0) rfl)
  have hB3 := bal (bb w) (.cells #[.int .i64 k, .int .i64 a, .int .i64 b] 41)
  have HS3 := Lib.hid S3
  clear S3 hN HS
  by_cases hin : (⟨k, a, b⟩ : Gt) ∈ M
  · have hil := List.idxOf_lt_length_of_mem hin
    have hid : Hid (keepG M ⟨k, a, b⟩ = (M, M.idxOf ⟨k, a, b⟩)) := by unfold Hid keepG; rw [if_pos hin]
    have hii : idxG M ⟨k, a, b⟩ = ((M.idxOf ⟨k, a, b⟩ : Nat) : Int) := by unfold idxG; rw [if_pos hin]
    rw [hii] at hix
    generalize M.idxOf ⟨k, a, b⟩ = q at hil hid hix
    clear hii hin
    go_enter Try.func113, Try.ntmps113
    go_wp2_with fail
    refine wp_region_quiet_below (by kernel_rfl) (by kernel_rfl) ?_
    repeat (any_goals (go_big_quiet_step ((go_at_call 126; exact Calls.regrown_of (hix.out _ ((bal (bb _) _).trans ((below_regrown _ _ _).mono (by simp))))))))
    refine wpQuiet_nil ?_
    rintro w3 ⟨pp, rfl⟩
    have HS4 := Lib.hid (HS3.out.grow (below_regrown _ pp.d pp.os)).tail
    clear HS3 d0 d1 d2 e2 hix
    go_wp2_with fail
    go_ret
    exact ⟨_, ret_int (by rw [hid.out]), by rw [hid.out]; exact HS4.out⟩
  · obtain ⟨i0, hi0, hz0, hz1, hz2⟩ := info_parts infoGt
    have hid : Hid (keepG M ⟨k, a, b⟩ = (M ++ [⟨k, a, b⟩], M.length)) := by unfold Hid keepG; rw [if_neg hin]
    have hii : idxG M ⟨k, a, b⟩ = -1 := by unfold idxG; rw [if_neg hin]
    rw [hii] at hix
    clear hii hin
    go_enter Try.func113, Try.ntmps113
    go_wp2_with fail
    refine wp_region_quiet_below (by kernel_rfl) (by kernel_rfl) ?_
    repeat (any_goals (go_big_quiet_step ((go_at_call 126; exact Calls.regrown_of (hix.out _ ((bal (bb _) _).trans ((below_regrown _ _ _).mono (by simp))))))))
    refine wpQuiet_nil ?_
    rintro w3 ⟨pp, hw3⟩
    have HS4 := HS3.out.grow (w' := w3) (hw3 ▸ below_regrown _ pp.d pp.os)
    have f0 := HS4.cell (i := 0) rfl (o := 0) rfl
    have f1 := HS4.cell (i := 0) rfl (o := 1) rfl
    have f2 := HS4.cell (i := 0) rfl (o := 2) rfl
    have g2 := HS4.cell (i := 1) rfl (o := 0) rfl
    have hpl2 := (HS4.box (i := 1) rfl).2.1
    replace HS4 := Lib.hid HS4
    clear hw3 HS3 d0 d1 d2 e2 hix
    go_wp2_with fail
    refine wp_region_tail_lit (S := (fun w' => w'.cell? ⟨p, 0, none⟩ = some (.slice A M.length c) ∧ w'.cell? ⟨w.heap.size, 0, none⟩ = some (.int .i64 k) ∧ w'.cell? ⟨w.heap.size, 1, none⟩ = some (.int .i64 a) ∧ w'.cell? ⟨w.heap.size, 2, none⟩ = some (.int .i64 b))) 8 [false, false, false, false, false, false, false, false, false, false, false] (by kernel_rfl) (by kernel_rfl) (by kernel_rfl) ?_ ?_
    · exact ⟨g2, f0, f1, f2⟩
    intro hS
    (refine walkT_take (i := 0) (v := ?_) rfl (by kernel_rfl) (by decide) (by kernel_rfl) (by kernel_rfl) (fun _ _ _ h => h) (Or.inl ⟨by rfl, ?_⟩) (by assumption) ?_; rotate_left; (focus (intro w hSw; (try dsimp only at hSw); go_simp; (try with_reducible rfl); done)); (try simp only [put_rules]))
    (refine walkT_take (i := 1) (v := ?_) rfl (by kernel_rfl) (by decide) (by kernel_rfl) (by kernel_rfl) (fun _ _ _ h => h) (Or.inl ⟨by rfl, ?_⟩) (by assumption) ?_; rotate_left; (focus (intro w hSw; (try dsimp only at hSw); go_simp; (try with_reducible rfl); done)); (try simp only [put_rules]))
    (refine walkT_take (i := 2) (v := ?_) rfl (by kernel_rfl) (by decide) (by kernel_rfl) (by kernel_rfl) (fun _ _ _ h => h) (Or.inl ⟨by rfl, ?_⟩) (by assumption) ?_; rotate_left; (focus (intro w hSw; (try dsimp only at hSw); go_simp; (try with_reducible rfl); done)); (try simp only [put_rules]))
    (refine walkT_take (i := 3) (v := ?_) rfl (by kernel_rfl) (by decide) (by kernel_rfl) (by kernel_rfl) (fun _ _ _ h => h) (Or.inl ⟨by rfl, ?_⟩) (by assumption) ?_; rotate_left; (focus (intro w hSw; (try dsimp only at hSw); go_simp; (try with_reducible rfl); done)); (try simp only [put_rules]))
    (refine walkT_take (i := 4) (v := ?_) rfl (by kernel_rfl) (by decide) (by kernel_rfl) (by kernel_rfl) (fun _ _ _ h => h) (Or.inl ⟨by rfl, ?_⟩) (by assumption) ?_; rotate_left; (focus (intro w hSw; (try dsimp only at hSw); go_simp; (try with_reducible rfl); done)); (try simp only [put_rules]))
    (refine walkT_take (i := 5) (v := ?_) rfl (by kernel_rfl) (by decide) (by kernel_rfl) (by kernel_rfl) (fun _ _ _ h => h) (Or.inl ⟨by rfl, ?_⟩) (by assumption) ?_; rotate_left; (focus (intro w hSw; (try dsimp only at hSw); go_simp; (try with_reducible rfl); done)); (try simp only [put_rules]))
    (refine walkT_ready (rs := [6]) (by kernel_rfl) (by simp) (by decide) ?_; refine AllT.cons rfl (fun K hK => ?_) AllT.nil)
    go_simp
    have S5 := HS4.out.alloc_box #[.int .i64 k, .int .i64 a, .int .i64 b] 41
    replace S5 := Lib.hid S5
    refine hK.out _ _ ?_ (fun _ => ?_)
    · exact ⟨S5.out.cell (i := 2) rfl (o := 0) rfl, S5.out.cell (i := 1) rfl (o := 0) rfl, S5.out.cell (i := 1) rfl (o := 1) rfl, S5.out.cell (i := 1) rfl (o := 2) rfl⟩
    clear hK HS4
    (try simp only [put_rules])
    (refine walkT_ready (rs := [7]) (by kernel_rfl) (by simp) (by decide) ?_; refine AllT.cons rfl (fun K hK => ?_) AllT.nil)
    (refine step_append_src rfl _ _ rfl Try.underlying28 hi0 hz0 hz1 hz2 rfl (by decide) _ M.length _ rfl (S5.out.own (i := 3) rfl) _ 1 1 [.int .i64 k, .int .i64 a, .int .i64 b] rfl (Src.threeG (S5.out.cell (i := 0) rfl (o := 0) rfl) (S5.out.cell (i := 0) rfl (o := 1) rfl) (S5.out.cell (i := 0) rfl (o := 2) rfl)) (by simp [Value.oneCell']) (by unfold maxLen; omega) (by omega) ?_; intro vE wE hownE hgE hatE)
    have S6 := S5.out.drew.own_push (i := 3) rfl (bb _) hownE hgE hatE
    obtain ⟨aE, cE, rfl⟩ := own_slice hownE
    refine hK.out _ _ ?_ (fun _ => ?_)
    · exact ⟨S6.cell (i := 2) rfl (o := 0) rfl, S6.cell (i := 1) rfl (o := 0) rfl, S6.cell (i := 1) rfl (o := 1) rfl, S6.cell (i := 1) rfl (o := 2) rfl⟩
    clear hK S5 hownE hgE hatE
    have hfz := S6.frozen (i := 2) rfl 0
    have hc6 := S6.cell (i := 2) rfl (o := 0) rfl
    have S7 := Lib.hid ((S6.store (i := 2) rfl 0 (.slice aE (M.length + 1) cE)).tail).tail
    clear S6
    (try simp only [put_rules])
    (refine walkT_done (by kernel_rfl) ?_)
    simp only [List.drop_succ_cons, List.drop_zero]
    go_wp2_with fail
    go_ret
    refine ⟨ret_int (by rw [hid.out]), .slice aE (M.length + 1) cE, ?_⟩
    rw [hid.out]
    unfold FoldSp
    rw [List.length_append, List.flatMap_append]
    exact S7.out
end Go.Proofs.Ytkhopkonddgicaa

/- Contract: a gate is added to a list that lies in a box. -/
namespace Go.Proofs.Ytkhopkonddgicaa
open Go.RowKit

/-- What lies in memory: the list's box, the list, others. -/
abbrev AddSp (w0 : World) (ob : Nat) (sv : Value) (M : List Gt) (ps : List Asn) (w : World) : Prop :=
  Sp w0 w (Box ob 28 #[sv] :: Own 41 3 sv M.length (M.flatMap gtEnc) :: ps)

set_option maxRecDepth 100000 in
set_option maxHeartbeats 8000000 in
theorem addG_any {w0 : World} {ps : List Asn} (ob : Nat) (sv : Value) (M : List Gt) (g : Gt) (w : World) (hl : M.length ≤ 1000) (HS : AddSp w0 ob sv M ps w) :
    Calls Try.prog 50 #[gtV g, .pointer (some ⟨ob, 0, none⟩)] w fun e w' => ∃ sv', e = .returned (.int .i64 (M.length : Nat)) ∧ AddSp w0 ob sv' (M ++ [g]) ps w' := by
  obtain ⟨k, a, b⟩ := g
  obtain ⟨i0, hi0, hz0, hz1, hz2⟩ := info_parts infoGt
  obtain ⟨aS, cS, rfl⟩ := own_slice (HS.own (i := 1) rfl)
  have hw : IntKind.i64.wrap (((M.length + 1 : Nat) : Int) - 1) = (M.length : Int) := by
    rw [show ((M.length + 1 : Nat) : Int) - 1 = (M.length : Int) by omega]; exact IntWalk.i64_in _ (by omega)
  have S3 := HS.alloc_box #[.int .i64 k, .int .i64 a, .int .i64 b] 41
  have c0 := S3.cell (i := 0) rfl (o := 0) rfl
  have c1 := S3.cell (i := 0) rfl (o := 1) rfl
  have c2 := S3.cell (i := 0) rfl (o := 2) rfl
  have c3 := S3.cell (i := 1) rfl (o := 0) rfl
  have S4 := S3.alloc_box #[.int .i64 k, .int .i64 a, .int .i64 b] 41
  simp only [World.size_alloc] at S4
  have k0 := S4.cell (i := 0) rfl (o := 0) rfl
  have k1 := S4.cell (i := 0) rfl (o := 1) rfl
  have k2 := S4.cell (i := 0) rfl (o := 2) rfl
  replace S4 := Lib.hid S4
  clear S3 HS
  go_enter Try.func50, Try.ntmps50
  go_wp2_with (at_builtin; refine wpList_append_src rfl _ _ rfl Try.underlying28 hi0 hz0 hz1 hz2 rfl (by decide) _ M.length _ rfl (S4.out.own (i := 3) rfl) _ 1 1 [.int .i64 k, .int .i64 a, .int .i64 b] rfl (Src.threeG k0 k1 k2) (by simp [Value.oneCell']) ?c3 ?c4 ?_)
  case c3 => unfold maxLen; omega
  case c4 => omega
  intro vE wE hownE hgE hatE
  have S6 := S4.out.own_push (i := 3) rfl (bb _) hownE hgE (by simpa using hatE)
  obtain ⟨aE, cE, rfl⟩ := own_slice hownE
  have e0 := S6.cell (i := 2) rfl (o := 0) rfl
  have e1 := S6.frozen (i := 2) rfl 0
  have S7 := Lib.hid ((S6.store (i := 2) rfl 0 (.slice aE (M.length + 1) cE)).tail).tail
  clear S4 S6 hownE hgE hatE c0 c1 c2 c3 k0 k1 k2
  go_wp2_with fail
  go_ret
  refine ⟨rfl, .slice aE (M.length + 1) cE, ?_⟩
  unfold AddSp
  rw [List.length_append, List.flatMap_append]
  exact S7.out
end Go.Proofs.Ytkhopkonddgicaa
