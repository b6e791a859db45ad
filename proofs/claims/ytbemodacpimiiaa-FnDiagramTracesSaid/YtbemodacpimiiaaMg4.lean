/- Lemmas and contracts for a law, put together out of several texts: TrA ClB CnfB ClC TrB TrC TrD NwH Cur CurS ClO. -/
import Derived.Test.YtbemodacpimiiaaMg3
import Derived.Shelf.Abstract
import Derived.Lib.RabinKarpLaws
import Derived.Lib.QuietBelow
import Derived.WalkKit
import Derived.Test.YtbemodacpimiiaaMg1
import Derived.Deep.RegionHeld3
import Derived.Test.YtbemodacpimiiaaMg2
import Derived.Test.YtbemodacpimiiaaProg
import Derived.WalkLawsBesides
import Derived.WalkSpells
import Derived.Lib.Hide
/- Contracts: whether a list holds an element for which a function answers yes; truth of clauses at bits. -/
namespace Go.Proofs.Ytbemodacpimiiaa
open Go.RowKit

/-- Clauses that can be read. -/
structure ClsAt (w : World) (A : Option Addr) (xss : List (List Int)) : Prop where
  at_ : ∀ j (hj : j < xss.length), ∃ b off B c, A = some ⟨b, off, none⟩ ∧ w.cell? ⟨b, off + j, none⟩ = some (.slice B xss[j].length c) ∧ IntsAt w B xss[j]
theorem ClsAt.grow {w w' : World} {A : Option Addr} {xss : List (List Int)} (h : ClsAt w A xss) (hb : Below w.heap.size w w') : ClsAt w' A xss := by
  refine ⟨fun j hj => ?_⟩
  obtain ⟨b, off, B, c, e, h1, h2⟩ := h.at_ j hj
  exact ⟨b, off, B, c, e, (hb.cell (World.block_lt_of_cell? _ _ h1)).trans h1, h2.grow hb⟩
/-- A function of a clause, told by what it answers. -/
def FnS (R : List Int → Prop) (w0 : World) (g : FuncId) (cb : Array Value) (p : List Int → Bool) : Prop :=
  ∀ (xs : List Int) (A : Option Addr) (c : Nat) w, IntsAt w A xs → R xs → Below w0.heap.size w0 w → Calls Try.prog g (#[.slice A xs.length c] ++ cb) w fun e w' => e = .returned (.bool (p xs)) ∧ Below w.heap.size w w'
def idxP {α : Type} (p : α → Bool) (xs : List α) : Int := if xs.any p then (xs.findIdx p : Nat) else -1
theorem idxP_ge {α : Type} (p : α → Bool) (xs : List α) : decide (0 ≤ idxP p xs) = xs.any p := by
  unfold idxP
  cases h : xs.any p
  · rfl
  · simp
theorem idxP_here {α : Type} {p : α → Bool} {xs : List α} {k : Nat} (hk : k < xs.length) (h : (xs.take k).any p = false) (e : p xs[k] = true) : idxP p xs = k := by
  unfold idxP
  rw [if_pos (List.any_eq_true.2 ⟨xs[k], List.getElem_mem hk, e⟩)]
  have : xs.findIdx p = k := by
    rw [List.findIdx_eq hk]
    refine ⟨e, fun j hj => ?_⟩
    have h2 := List.any_eq_false.1 h xs[j] (by rw [List.mem_take_iff_getElem]; exact ⟨j, by omega, rfl⟩)
    simpa using h2
  rw [this]
theorem any_next {α : Type} {p : α → Bool} {xs : List α} {k : Nat} (hk : k < xs.length) (h : (xs.take k).any p = false) (e : p xs[k] = false) : (xs.take (k + 1)).any p = false := by
  rw [List.take_succ_eq_append_getElem hk, List.any_append, h]
  simp [e]
theorem idxP_none {α : Type} {p : α → Bool} {xs : List α} (h : (xs.take xs.length).any p = false) : idxP p xs = -1 := by
  unfold idxP
  rw [List.take_length] at h
  rw [h]; rfl

set_option maxRecDepth 100000 in
set_option maxHeartbeats 2000000 in
theorem indexFuncI_any {g : FuncId} {cb : Array Value} {p : Int → Bool} {R : Int → Prop} (eg : Enter1 g) (xs : List (Int)) (A : Option Addr) (c : Nat) (w : World) (hx : IntsAt w A xs) (hl : xs.length ≤ 1000000) (hR : ∀ x ∈ xs, R x) (hf : FnI R w g cb p) :
    Calls Try.prog 157 #[.slice A xs.length c, .func (.func g) #[] cb] w fun e w' => e = .returned (.int .i64 (idxP p xs)) ∧ Below w.heap.size w w' := by
  unfold Enter1 at eg
  have hN := Lib.hid hx
  replace hf := Lib.hid hf
  have hRR := Lib.hid hR
  have HB0 := Lib.hid (bb w)
  clear hx hR
  go_enter Try.func157, Try.ntmps157
  go_wp2_with fail
  go_loopw [5, 8] (fun _ i wr => ∃ k : Nat, k ≤ xs.length ∧ i = .int .i64 k ∧ Hid ((xs.take k).any p = false) ∧ Hid (Below w.heap.size w wr)) (fun _ i _ => xs.length - (intOf i).toNat)
  case atStart => exact ⟨0, Nat.zero_le _, rfl, rfl, HB0⟩
  case round =>
    obtain ⟨k, hk, rfl, HD, HB⟩ := hrel
    clear HB0
    by_cases hlt : k < xs.length
    · obtain ⟨b, off, rfl, m0⟩ := (hN.out.grow HB.out).at_ k hlt
      have hcall := Lib.hid (hf.out xs[k] wr (hRR.out _ (List.getElem_mem hlt)) HB.out)
      have hyes := Lib.hid (idxP_here hlt HD.out)
      have hno := Lib.hid (any_next hlt HD.out)
      generalize hq : p xs[k] = q at *
      clear hq
      cases q
      · have hD := Lib.hid (hno.out rfl)
        clear hyes hno HD
        go_wp2_with fail
        refine hcall.out.mono ?_
        rintro e w1 ⟨rfl, hb1⟩
        have HB2 := Lib.hid (btr HB.out hb1)
        clear hcall hb1 HB m0
        go_wp2_with fail
        go_roundw
        case rel => exact ⟨k + 1, by omega, by go_num, hD, HB2⟩
        case measure => simp [intOf]; omega
      · have hRes := Lib.hid (hyes.out rfl)
        clear hyes hno HD
        go_wp2_with fail
        refine hcall.out.mono ?_
        rintro e w1 ⟨rfl, hb1⟩
        have HB2 := Lib.hid (btr HB.out hb1)
        clear hcall hb1 HB m0
        go_wp2_with fail
        go_ret
        exact ⟨ret_int hRes.out.symm, HB2.out⟩
    · obtain rfl : k = xs.length := by omega
      have hRes := Lib.hid (idxP_none HD.out)
      go_wp2_with fail
      go_ret
      exact ⟨ret_int hRes.out.symm, HB.out⟩

theorem containsI_any {g : FuncId} {cb : Array Value} {p : Int → Bool} {R : Int → Prop} (eg : Enter1 g) (xs : List (Int)) (A : Option Addr) (c : Nat) (w : World) (hx : IntsAt w A xs) (hl : xs.length ≤ 1000000) (hR : ∀ x ∈ xs, R x) (hf : FnI R w g cb p) :
    Calls Try.prog 104 #[.slice A xs.length c, .func (.func g) #[] cb] w fun e w' => e = .returned (.bool (xs.any p)) ∧ Below w.heap.size w w' := by
  have hcall := Lib.hid (indexFuncI_any eg xs A c w hx hl hR hf)
  have hge := Lib.hid (idxP_ge p xs)
  generalize idxP p xs = i at *
  clear hx hf hR
  go_enter Try.func104, Try.ntmps104
  go_wp2_with fail
  refine hcall.out.mono ?_
  rintro e w1 ⟨rfl, hb1⟩
  clear hcall
  go_wp2_with fail
  go_ret
  exact ⟨ret_bool hge.out, hb1⟩

set_option maxRecDepth 100000 in
set_option maxHeartbeats 2000000 in
theorem indexFuncS_any {g : FuncId} {cb : Array Value} {p : List Int → Bool} {R : List Int → Prop} (eg : Enter1 g) (xs : List (List Int)) (A : Option Addr) (c : Nat) (w : World) (hx : ClsAt w A xs) (hl : xs.length ≤ 1000000) (hR : ∀ x ∈ xs, R x) (hf : FnS R w g cb p) :
    Calls Try.prog 188 #[.slice A xs.length c, .func (.func g) #[] cb] w fun e w' => e = .returned (.int .i64 (idxP p xs)) ∧ Below w.heap.size w w' := by
  unfold Enter1 at eg
  have hN := Lib.hid hx
  replace hf := Lib.hid hf
  have hRR := Lib.hid hR
  have HB0 := Lib.hid (bb w)
  clear hx hR
  go_enter Try.func188, Try.ntmps188
  go_wp2_with fail
  go_loopw [5, 8] (fun _ i wr => ∃ k : Nat, k ≤ xs.length ∧ i = .int .i64 k ∧ Hid ((xs.take k).any p = false) ∧ Hid (Below w.heap.size w wr)) (fun _ i _ => xs.length - (intOf i).toNat)
  case atStart => exact ⟨0, Nat.zero_le _, rfl, rfl, HB0⟩
  case round =>
    obtain ⟨k, hk, rfl, HD, HB⟩ := hrel
    clear HB0
    by_cases hlt : k < xs.length
    · obtain ⟨b, off, Bk, ck, rfl, m0, hI⟩ := (hN.out.grow HB.out).at_ k hlt
      have hcall := Lib.hid (hf.out xs[k] Bk ck wr hI (hRR.out _ (List.getElem_mem hlt)) HB.out)
      clear hI
      have hyes := Lib.hid (idxP_here hlt HD.out)
      have hno := Lib.hid (any_next hlt HD.out)
      generalize hq : p xs[k] = q at *
      clear hq
      cases q
      · have hD := Lib.hid (hno.out rfl)
        clear hyes hno HD
        go_wp2_with fail
        refine hcall.out.mono ?_
        rintro e w1 ⟨rfl, hb1⟩
        have HB2 := Lib.hid (btr HB.out hb1)
        clear hcall hb1 HB m0
        go_wp2_with fail
        go_roundw
        case rel => exact ⟨k + 1, by omega, by go_num, hD, HB2⟩
        case measure => simp [intOf]; omega
      · have hRes := Lib.hid (hyes.out rfl)
        clear hyes hno HD
        go_wp2_with fail
        refine hcall.out.mono ?_
        rintro e w1 ⟨rfl, hb1⟩
        have HB2 := Lib.hid (btr HB.out hb1)
        clear hcall hb1 HB m0
        go_wp2_with fail
        go_ret
        exact ⟨ret_int hRes.out.symm, HB2.out⟩
    · obtain rfl : k = xs.length := by omega
      have hRes := Lib.hid (idxP_none HD.out)
      go_wp2_with fail
      go_ret
      exact ⟨ret_int hRes.out.symm, HB.out⟩

theorem containsS_any {g : FuncId} {cb : Array Value} {p : List Int → Bool} {R : List Int → Prop} (eg : Enter1 g) (xs : List (List Int)) (A : Option Addr) (c : Nat) (w : World) (hx : ClsAt w A xs) (hl : xs.length ≤ 1000000) (hR : ∀ x ∈ xs, R x) (hf : FnS R w g cb p) :
    Calls Try.prog 158 #[.slice A xs.length c, .func (.func g) #[] cb] w fun e w' => e = .returned (.bool (xs.any p)) ∧ Below w.heap.size w w' := by
  have hcall := Lib.hid (indexFuncS_any eg xs A c w hx hl hR hf)
  have hge := Lib.hid (idxP_ge p xs)
  generalize idxP p xs = i at *
  clear hx hf hR
  go_enter Try.func158, Try.ntmps158
  go_wp2_with fail
  refine hcall.out.mono ?_
  rintro e w1 ⟨rfl, hb1⟩
  clear hcall
  go_wp2_with fail
  go_ret
  exact ⟨ret_bool hge.out, hb1⟩
end Go.Proofs.Ytbemodacpimiiaa

/- Contracts: clauses, in the reference and in the program. -/
namespace Go.Proofs.Ytbemodacpimiiaa
open Go.RowKit

theorem l2Lit_at {v l : Int} {q : Bool} (h : litB v l = q) (w : World) : Calls Try.prog 193 #[.int .i64 v, .int .i64 l] w fun e w' => e = .returned (.bool q) ∧ Below w.heap.size w w' := h ▸ same_below (l2Lit_any v l w)
theorem isLiteral_at {v l : Int} {q : Bool} (h : litB v l = q) (w : World) : Calls Try.prog 130 #[.int .i64 v, .int .i64 l] w fun e w' => e = .returned (.bool q) ∧ Below w.heap.size w w' := h ▸ same_below (isLiteral_any v l w)
theorem l2Var_at {l x : Int} (h : absV l = x) (w : World) : Calls Try.prog 151 #[.int .i64 l] w fun e w' => e = .returned (.int .i64 x) ∧ Below w.heap.size w w' := h ▸ same_below (l2Var_any l w)
theorem abs_at {l x : Int} (hl : I64 l) (h : absV l = x) (w : World) : Calls Try.prog 131 #[.int .i64 l] w fun e w' => e = .returned (.int .i64 x) ∧ Below w.heap.size w w' := h ▸ same_below (abs_any l w hl)

theorem cOk_zero (vars : Int) (c : List Int) (h : 0 < c.length) : cOk vars c 0 = litB vars c[0] := by simp [cOk, List.getD_eq_getElem?_getD, List.getElem?_eq_getElem h]
theorem cOk_succ (vars : Int) (c : List Int) (k : Nat) (h : k + 1 < c.length) : cOk vars c (k + 1) = (litB vars c[k + 1] && decide (absV (c[k]'(by omega)) < absV c[k + 1])) := by
  simp [cOk, List.getD_eq_getElem?_getD, List.getElem?_eq_getElem h, List.getElem?_eq_getElem (show k < c.length by omega)]
theorem clause_no {vars : Int} {c : List Int} {k : Nat} (hk : k < c.length) (h : cOk vars c k = false) : clauseB vars c = false := by
  unfold clauseB
  rw [cOkTo_le (k := k + 1) hk (by rw [cOkTo_succ, h, Bool.and_false]), Bool.and_false]
theorem clause_step {vars : Int} {c : List Int} {k : Nat} (h0 : cOkTo vars c k = true) (h : cOk vars c k = true) : cOkTo vars c (k + 1) = true := by rw [cOkTo_succ, h0, h]; rfl

set_option maxHeartbeats 1000000 in
theorem l2Clause_any (vars : Int) (v : Value) (c : List Int) (F : List Nat) (w : World) (hx : Ty.int.row false w v c F) :
    Calls Try.prog 170 #[.int .i64 vars, v] w fun e w' => e = .returned (.bool (clauseB vars c)) ∧ Below w.heap.size w w' := by
  obtain ⟨a, cap, rfl, hx1, hx2, hxI, hx3⟩ := row_int hx
  cases hv : inB vars 0 12
  · have hd : Hid (clauseB vars c = false) := by unfold Hid clauseB; rw [hv]; rfl
    go_enter Try.func170, Try.ntmps170
    go_wp2_with (go_at_call 169; refine (l2Vars_any _ _).mono ?_; rw [hv]; rintro e w1 ⟨rfl, rfl⟩)
    go_ret
    exact ⟨ret_bool hd.out.symm, bb _⟩
  have hd : Hid (clauseB vars c = cOkTo vars c c.length) := by unfold Hid clauseB; rw [hv]; rfl
  go_enter Try.func170, Try.ntmps170
  go_wp2_with (go_at_call 169; refine (l2Vars_any _ _).mono ?_; rw [hv]; rintro e w1 ⟨rfl, rfl⟩)
  go_loopw [5] (fun i wr => ∃ k : Nat, k ≤ c.length ∧ i = .int .i64 k ∧ Hid (cOkTo vars c k = true) ∧ Below w.heap.size w wr) (fun i _ => c.length - (intOf i).toNat)
  case atStart => exact ⟨0, Nat.zero_le _, rfl, by simp [Hid, cOkTo], bb _⟩
  case round =>
    obtain ⟨k, hk, rfl, HR, hB⟩ := hrel
    by_cases hlt : k < c.length
    · rcases hx3 with ⟨rfl, rfl⟩ | ⟨hxn, b, off, rfl, rfl, hxc⟩
      · exact absurd hlt (by simp)
      have k0 := cell_regrown ((hxc k hlt).keep (hB.block b (hxc k hlt).lt)).1
      cases hl : litB vars c[k]
      · have HN : Hid (clauseB vars c = false) := clause_no hlt (by unfold cOk; rw [List.getD_eq_getElem?_getD, List.getElem?_eq_getElem hlt]; simp [hl])
        go_wp2_with fail
        refine wp_region_quiet_below (by kernel_rfl) (by kernel_rfl) ?_
        repeat (any_goals (first | go_big_quiet_step ((go_at_call 193; exact Calls.regrown_of (l2Lit_at hl _)))))
        refine wpQuiet_nil ?_
        rintro w1 ⟨p, rfl⟩
        go_wp2_with fail
        go_ret
        exact ⟨ret_bool HN.out.symm, hB.trans ((below_regrown _ _ _).mono hB.size)⟩
      rcases Nat.eq_zero_or_pos k with rfl | hpos
      · have HN : Hid (cOkTo vars c (0 + 1) = true) := clause_step rfl (by rw [cOk_zero _ _ hlt]; exact hl)
        rw [Nat.add_zero] at k0
        clear HR
        go_wp2_with fail
        refine wp_region_quiet_below (by kernel_rfl) (by kernel_rfl) ?_
        repeat (any_goals (first | go_big_quiet_step ((go_at_call 193; exact Calls.regrown_of (l2Lit_at hl _)))))
        refine wpQuiet_nil ?_
        rintro w1 ⟨p, rfl⟩
        go_wp2_with fail
        go_roundw
        case rel => exact ⟨0 + 1, by omega, by go_num, HN, hB.trans ((below_regrown _ _ _).mono hB.size)⟩
        case measure => simp [intOf]; omega
      have hj : k - 1 < c.length := by omega
      have k1 := cell_regrown ((hxc (k - 1) hj).keep (hB.block b (hxc (k - 1) hj).lt)).1
      have HS : cOk vars c k = decide (absV c[k - 1] < absV c[k]) := by
        obtain ⟨j, rfl⟩ : ∃ j, k = j + 1 := ⟨k - 1, by omega⟩
        rw [cOk_succ vars c j hlt, hl, Bool.true_and]
        rfl
      obtain ⟨x, hx⟩ : ∃ x, absV c[k - 1] = x := ⟨_, rfl⟩
      obtain ⟨y, hy⟩ : ∃ y, absV c[k] = y := ⟨_, rfl⟩
      rw [hx, hy] at HS
      have hg : (0 : Int) < (k : Int) := by omega
      by_cases hc : x < y
      · have HN : Hid (cOkTo vars c (k + 1) = true) := clause_step HR.out (by rw [HS]; simpa using hc)
        clear HS HR
        go_wp2_with fail
        refine wp_region_quiet_below (by kernel_rfl) (by kernel_rfl) ?_
        repeat (any_goals (first | go_big_quiet_step (first | (go_at_call 193; exact Calls.regrown_of (l2Lit_at hl _)) | (go_at_call 151; first | (with_reducible exact Calls.regrown_of (l2Var_at hx _)) | (with_reducible exact Calls.regrown_of (l2Var_at hy _))))))
        refine wpQuiet_nil ?_
        rintro w1 ⟨p, rfl⟩
        go_wp2_with fail
        go_roundw
        case rel => exact ⟨k + 1, by omega, by go_num, HN, hB.trans ((below_regrown _ _ _).mono hB.size)⟩
        case measure => simp [intOf]; omega
      · have HN : Hid (clauseB vars c = false) := clause_no hlt (by rw [HS]; simpa using hc)
        clear HS HR
        go_wp2_with fail
        refine wp_region_quiet_below (by kernel_rfl) (by kernel_rfl) ?_
        repeat (any_goals (first | go_big_quiet_step (first | (go_at_call 193; exact Calls.regrown_of (l2Lit_at hl _)) | (go_at_call 151; first | (with_reducible exact Calls.regrown_of (l2Var_at hx _)) | (with_reducible exact Calls.regrown_of (l2Var_at hy _))))))
        refine wpQuiet_nil ?_
        rintro w1 ⟨p, rfl⟩
        go_wp2_with fail
        go_ret
        exact ⟨ret_bool HN.out.symm, hB.trans ((below_regrown _ _ _).mono hB.size)⟩
    · obtain rfl : k = c.length := by omega
      have HN := HR.out
      replace HN := (show Hid (cOkTo vars c c.length = true) from HN)
      go_wp2_with fail
      go_ret
      exact ⟨ret_bool (by rw [hd.out, HN.out]), hB⟩
set_option maxHeartbeats 1000000 in
theorem implIsClause_any (vars : Int) (v : Value) (c : List Int) (F : List Nat) (w : World) (hx : Ty.int.row false w v c F) :
    Calls Try.prog 65 #[.int .i64 vars, v] w fun e w' => e = .returned (.bool (clauseB vars c)) ∧ Below w.heap.size w w' := by
  obtain ⟨a, cap, rfl, hx1, hx2, hxI, hx3⟩ := row_int hx
  go_enter Try.func65, Try.ntmps65
  go_wp2_with fail
  go_loopw [9] (fun i wr => ∃ k : Nat, k ≤ c.length ∧ i = .int .i64 k ∧ Hid (cOkTo vars c k = true) ∧ Below w.heap.size w wr) (fun i _ => c.length - (intOf i).toNat)
  case atStart => exact ⟨0, Nat.zero_le _, rfl, by simp [Hid, cOkTo], bb _⟩
  case round =>
    obtain ⟨k, hk, rfl, HR, hB⟩ := hrel
    by_cases hlt : k < c.length
    · rcases hx3 with ⟨rfl, rfl⟩ | ⟨hxn, b, off, rfl, rfl, hxc⟩
      · exact absurd hlt (by simp)
      have k0 := ((hxc k hlt).keep (hB.block b (hxc k hlt).lt)).1
      have hI0 : I64 c[k] := hxI _ (List.getElem_mem _)
      cases hl : litB vars c[k]
      · have HN : Hid (clauseB vars c = false) := clause_no hlt (by unfold cOk; rw [List.getD_eq_getElem?_getD, List.getElem?_eq_getElem hlt]; simp [hl])
        go_wp2_with fail
        refine wp_region_quiet_below (by kernel_rfl) (by kernel_rfl) ?_
        repeat (any_goals (first | go_big_quiet_step ((go_at_call 130; exact Calls.regrown_of (isLiteral_at hl _)))))
        refine wpQuiet_nil ?_
        rintro w1 ⟨p, rfl⟩
        go_wp2_with fail
        go_ret
        exact ⟨ret_bool HN.out.symm, hB.trans ((below_regrown _ _ _).mono hB.size)⟩
      rcases Nat.eq_zero_or_pos k with rfl | hpos
      · have HN : Hid (cOkTo vars c (0 + 1) = true) := clause_step rfl (by rw [cOk_zero _ _ hlt]; exact hl)
        rw [Nat.add_zero] at k0
        clear HR
        go_wp2_with fail
        refine wp_region_quiet_below (by kernel_rfl) (by kernel_rfl) ?_
        repeat (any_goals (first | go_big_quiet_step ((go_at_call 130; exact Calls.regrown_of (isLiteral_at hl _)))))
        refine wpQuiet_nil ?_
        rintro w1 ⟨p, rfl⟩
        go_wp2_with fail
        go_roundw
        case rel => exact ⟨0 + 1, by omega, by go_num, HN, hB.trans ((below_regrown _ _ _).mono hB.size)⟩
        case measure => simp [intOf]; omega
      have hj : k - 1 < c.length := by omega
      have k1 := cell_regrown ((hxc (k - 1) hj).keep (hB.block b (hxc (k - 1) hj).lt)).1
      have hI1 : I64 c[k - 1] := hxI _ (List.getElem_mem _)
      have HS : cOk vars c k = decide (absV c[k - 1] < absV c[k]) := by
        obtain ⟨j, rfl⟩ : ∃ j, k = j + 1 := ⟨k - 1, by omega⟩
        rw [cOk_succ vars c j hlt, hl, Bool.true_and]
        rfl
      obtain ⟨x, hx⟩ : ∃ x, absV c[k - 1] = x := ⟨_, rfl⟩
      obtain ⟨y, hy⟩ : ∃ y, absV c[k] = y := ⟨_, rfl⟩
      rw [hx, hy] at HS
      have hg : (0 : Int) < (k : Int) := by omega
      by_cases hc : x < y
      · have HN : Hid (cOkTo vars c (k + 1) = true) := clause_step HR.out (by rw [HS]; simpa using hc)
        clear HS HR
        go_wp2_with fail
        refine wp_region_quiet_below (by kernel_rfl) (by kernel_rfl) ?_
        repeat (any_goals (first | go_big_quiet_step (first | (go_at_call 130; exact Calls.regrown_of (isLiteral_at hl _)) | (go_at_call 131; first | (with_reducible exact Calls.regrown_of (abs_at hI1 hx _)) | (with_reducible exact Calls.regrown_of (abs_at hI0 hy _))))))
        refine wpQuiet_nil ?_
        rintro w1 ⟨p, rfl⟩
        go_wp2_with fail
        go_roundw
        case rel => exact ⟨k + 1, by omega, by go_num, HN, hB.trans ((below_regrown _ _ _).mono hB.size)⟩
        case measure => simp [intOf]; omega
      · have HN : Hid (clauseB vars c = false) := clause_no hlt (by rw [HS]; simpa using hc)
        clear HS HR
        go_wp2_with fail
        refine wp_region_quiet_below (by kernel_rfl) (by kernel_rfl) ?_
        repeat (any_goals (first | go_big_quiet_step (first | (go_at_call 130; exact Calls.regrown_of (isLiteral_at hl _)) | (go_at_call 131; first | (with_reducible exact Calls.regrown_of (abs_at hI1 hx _)) | (with_reducible exact Calls.regrown_of (abs_at hI0 hy _))))))
        refine wpQuiet_nil ?_
        rintro w1 ⟨p, rfl⟩
        go_wp2_with fail
        go_ret
        exact ⟨ret_bool HN.out.symm, hB.trans ((below_regrown _ _ _).mono hB.size)⟩
    · obtain rfl : k = c.length := by omega
      have HN : Hid (clauseB vars c = inB vars 0 12) := by unfold Hid clauseB; rw [HR.out, Bool.and_true]
      clear HR
      go_wp2_with (go_at_call 92; refine (varsOk_any _ _).mono ?_; rintro e w1 ⟨rfl, rfl⟩)
      go_ret
      exact ⟨ret_bool HN.out.symm, hB⟩
end Go.Proofs.Ytbemodacpimiiaa

/- Contracts: rows of rows of ints and Cnfs in the laws. -/
namespace Go.Proofs.Ytbemodacpimiiaa
open Go.RowKit

/- left out: the seat has no laws.szIntS -/

/-- The number of numbers in the first k rows. -/
def sumTo (xss : List (List Int)) (k : Nat) : Nat := ((xss.take k).map List.length).sum
theorem sumTo_succ (xss : List (List Int)) (k : Nat) (hk : k < xss.length) : sumTo xss (k + 1) = sumTo xss k + xss[k].length := by
  unfold sumTo; rw [List.take_succ_eq_append_getElem hk, List.map_append, List.sum_append]; simp
theorem sumTo_all (xss : List (List Int)) : sumTo xss xss.length = (xss.map List.length).sum := by unfold sumTo; rw [List.take_length]
theorem sumTo_le (xss : List (List Int)) (k : Nat) : sumTo xss k ≤ (xss.map List.length).sum := by
  unfold sumTo
  conv => rhs; rw [← List.take_append_drop k xss]
  rw [List.map_append, List.sum_append]; omega
theorem sumTo_zero (xss : List (List Int)) : sumTo xss 0 = 0 := rfl
theorem get_len_le (xss : List (List Int)) (k : Nat) (hk : k < xss.length) : xss[k].length ≤ (xss.map List.length).sum := by
  have := sumTo_le xss (k + 1)
  rw [sumTo_succ xss k hk] at this; omega

/-- What is left, or -1. -/
def szOf (n : Int) (b : Nat) : Int := if n < (b : Int) then -1 else n - b
theorem szOf_no {n : Int} {b : Nat} (h : n < (b : Int)) : szOf n b = -1 := if_pos h
theorem szOf_yes {n : Int} {b : Nat} (h : (b : Int) ≤ n) : szOf n b = n - b := if_neg (by omega)

/- left out: the seat has no laws.szIntSS -/

theorem infoRow : (Try.prog.info? 35).map (fun i => (i.zero, i.size, i.bytes)) = some (some (.slice none 0 0), 1, 24) := by kernel_rfl

/- left out: the seat has no laws.toIntSS -/

/- left out: the seat has no laws.eqIntSS -/
end Go.Proofs.Ytbemodacpimiiaa

/- Contracts: valid Cnfs, in the reference and in the program. -/
namespace Go.Proofs.Ytbemodacpimiiaa
open Go.RowKit

/-- A valid Cnf. -/
def goodB (vars : Int) (xss : List (List Int)) : Bool := inB vars 0 12 && decide (xss.length ≤ 60) && xss.all (clauseB vars)
theorem good_no {vars : Int} {xss : List (List Int)} {k : Nat} (hk : k < xss.length) (h : clauseB vars xss[k] = false) : goodB vars xss = false := by
  have : xss.all (clauseB vars) = false := by
    rw [Bool.eq_false_iff]
    intro h2
    rw [List.all_eq_true] at h2
    rw [h2 _ (List.getElem_mem hk)] at h
    cases h
  simp [goodB, this]
theorem all_step {vars : Int} {xss : List (List Int)} {k : Nat} (hk : k < xss.length) (h0 : (xss.take k).all (clauseB vars) = true) (h : clauseB vars xss[k] = true) : (xss.take (k + 1)).all (clauseB vars) = true := by
  rw [List.take_succ_eq_append_getElem hk, List.all_append, h0]
  simp [h]

theorem l2Clause_at {vars : Int} {v : Value} {c : List Int} {F : List Nat} {w : World} {q : Bool} (hx : Ty.int.row false w v c F) (h : clauseB vars c = q) :
    Calls Try.prog 170 #[.int .i64 vars, v] w fun e w' => e = .returned (.bool q) ∧ Below w.heap.size w w' := h ▸ l2Clause_any vars v c F w hx
theorem implIsClause_at {vars : Int} {v : Value} {c : List Int} {F : List Nat} {w : World} {q : Bool} (hx : Ty.int.row false w v c F) (h : clauseB vars c = q) :
    Calls Try.prog 65 #[.int .i64 vars, v] w fun e w' => e = .returned (.bool q) ∧ Below w.heap.size w w' := h ▸ implIsClause_any vars v c F w hx

/- left out: the seat has no spec.l3Good -/

/-- A boxed Cnf in the first new block. -/
def CBox (w : World) (n : Int) (v : Value) (wx : World) : Prop :=
  wx.cell? ⟨w.heap.size, 0, none⟩ = some (.int .i64 n) ∧ wx.cell? ⟨w.heap.size, 1, none⟩ = some v ∧ Below w.heap.size w wx ∧ w.heap.size < wx.heap.size
theorem CBox.grow {w : World} {n : Int} {v : Value} {wx wy : World} (h : CBox w n v wx) (hb : Below wx.heap.size wx wy) : CBox w n v wy := by
  obtain ⟨h0, h1, hB, hs⟩ := h
  have hc := (bcell hb).1
  exact ⟨(hc _ _ hs).trans h0, (hc _ _ hs).trans h1, btr hB hb, Nat.lt_of_lt_of_le hs hb.size⟩
theorem CBox.new (w : World) (n : Int) (v : Value) (T : TypeId) : CBox w n v (w.alloc (.cells #[.int .i64 n, v] T)) :=
  ⟨by simp [go_sem], by simp [go_sem], bal (bb _) _, by simp⟩

set_option maxHeartbeats 2000000 in
theorem l2Good_any (vars : Int) (v : Value) (xss : List (List Int)) (F : List Nat) (w : World) (hx : (Ty.slice Ty.int).row false w v xss F) :
    Calls Try.prog 127 #[.agg #[.int .i64 vars, v]] w fun e w' => e = .returned (.bool (goodB vars xss)) ∧ Below w.heap.size w w' := by
  obtain ⟨a, cap, rfl, hx1, hx2, hx3⟩ := row_slices hx
  cases hv : inB vars 0 12
  · have hd : Hid (goodB vars xss = false) := by unfold Hid goodB; rw [hv]; rfl
    go_enter Try.func127, Try.ntmps127
    go_wp2_with (go_at_call 169; refine (l2Vars_any _ _).mono ?_; rw [hv]; rintro e w1 ⟨rfl, rfl⟩)
    go_ret
    exact ⟨ret_bool hd.out.symm, bal (bb _) _⟩
  by_cases hL : (60 : Int) < (xss.length : Int)
  · have hd : Hid (goodB vars xss = false) := by unfold Hid goodB; rw [decide_eq_false (show ¬ xss.length ≤ 60 by omega)]; simp
    go_enter Try.func127, Try.ntmps127
    go_wp2_with (go_at_call 169; refine (l2Vars_any _ _).mono ?_; rw [hv]; rintro e w1 ⟨rfl, rfl⟩)
    go_ret
    exact ⟨ret_bool hd.out.symm, bal (bb _) _⟩
  have hd : Hid (goodB vars xss = xss.all (clauseB vars)) := by unfold Hid goodB; rw [hv, decide_eq_true (show xss.length ≤ 60 by omega)]; rfl
  have hst := CBox.new w vars (.slice a xss.length cap) 26
  replace hst := Lib.hid hst
  go_enter Try.func127, Try.ntmps127
  go_wp2_with (go_at_call 169; refine (l2Vars_any _ _).mono ?_; rw [hv]; rintro e w1 ⟨rfl, rfl⟩)
  go_loopw [3] (fun i wr => ∃ k : Nat, k ≤ xss.length ∧ i = .int .i64 k ∧ Hid ((xss.take k).all (clauseB vars) = true) ∧ CBox w vars (.slice a xss.length cap) wr) (fun i _ => xss.length - (intOf i).toNat)
  case atStart => exact ⟨0, Nat.zero_le _, rfl, by simp [Hid], hst.out⟩
  case round =>
    obtain ⟨k, hk, rfl, HR, HC⟩ := hrel
    have HJ := Lib.hid HC
    obtain ⟨c0, c1, hB, hs⟩ := HC
    by_cases hlt : k < xss.length
    · rcases hx3 with ⟨rfl, rfl⟩ | ⟨hxn, b, off, rfl, _, hxc⟩
      · exact absurd hlt (by simp)
      obtain ⟨u, Fk, hc, hr, _⟩ := hxc k hlt
      have hr' := Ty.row_below hr hB (Ty.row_lt hr)
      obtain ⟨ua, uc, rfl, hu1, hu2⟩ := Ty.row_len hr
      have k0 := cell_regrown (hc.keep (hB.block b hc.lt)).1
      have k1 := cell_regrown c0
      have k2 := cell_regrown c1
      cases hl : clauseB vars xss[k]
      · have HN : Hid (goodB vars xss = false) := good_no hlt hl
        go_wp2_with fail
        refine wp_region_quiet_below (by kernel_rfl) (by kernel_rfl) ?_
        repeat (any_goals (first | go_big_quiet_step ((go_at_call 170; exact Calls.regrown_of (l2Clause_at (Ty.row_below hr' (below_regrown _ _ _) (Ty.row_lt hr')) hl)))))
        refine wpQuiet_nil ?_
        rintro w1 ⟨p, rfl⟩
        go_wp2_with fail
        go_ret
        exact ⟨ret_bool HN.out.symm, hB.trans ((below_regrown _ _ _).mono hB.size)⟩
      · have HN : Hid ((xss.take (k + 1)).all (clauseB vars) = true) := all_step hlt HR.out hl
        clear HR
        go_wp2_with fail
        refine wp_region_quiet_below (by kernel_rfl) (by kernel_rfl) ?_
        repeat (any_goals (first | go_big_quiet_step ((go_at_call 170; exact Calls.regrown_of (l2Clause_at (Ty.row_below hr' (below_regrown _ _ _) (Ty.row_lt hr')) hl)))))
        refine wpQuiet_nil ?_
        rintro w1 ⟨p, rfl⟩
        go_wp2_with fail
        go_roundw
        case rel => exact ⟨k + 1, by omega, by go_num, HN, HJ.out.grow (below_regrown _ _ _)⟩
        case measure => simp [intOf]; omega
    · obtain rfl : k = xss.length := by omega
      have HN := HR.out
      rw [List.take_length] at HN
      replace HN := Lib.hid HN
      clear HR
      go_wp2_with fail
      go_ret
      exact ⟨ret_bool (by rw [hd.out, HN.out]), hB⟩

set_option maxHeartbeats 2000000 in
theorem implIsCnf_any (vars : Int) (v : Value) (xss : List (List Int)) (F : List Nat) (w : World) (hx : (Ty.slice Ty.int).row false w v xss F) :
    Calls Try.prog 27 #[.agg #[.int .i64 vars, v]] w fun e w' => e = .returned (.bool (goodB vars xss)) ∧ Below w.heap.size w w' := by
  obtain ⟨a, cap, rfl, hx1, hx2, hx3⟩ := row_slices hx
  have hst := CBox.new w vars (.slice a xss.length cap) 26
  replace hst := Lib.hid hst
  go_enter Try.func27, Try.ntmps27
  go_wp2_with fail
  go_loopw [8] (fun i wr => ∃ k : Nat, k ≤ xss.length ∧ i = .int .i64 k ∧ Hid ((xss.take k).all (clauseB vars) = true) ∧ CBox w vars (.slice a xss.length cap) wr) (fun i _ => xss.length - (intOf i).toNat)
  case atStart => exact ⟨0, Nat.zero_le _, rfl, by simp [Hid], hst.out⟩
  case round =>
    obtain ⟨k, hk, rfl, HR, HC⟩ := hrel
    have HJ := Lib.hid HC
    obtain ⟨c0, c1, hB, hs⟩ := HC
    by_cases hlt : k < xss.length
    · rcases hx3 with ⟨rfl, rfl⟩ | ⟨hxn, b, off, rfl, _, hxc⟩
      · exact absurd hlt (by simp)
      obtain ⟨u, Fk, hc, hr, _⟩ := hxc k hlt
      have hr' := Ty.row_below hr hB (Ty.row_lt hr)
      obtain ⟨ua, uc, rfl, hu1, hu2⟩ := Ty.row_len hr
      have k0 := (hc.keep (hB.block b hc.lt)).1
      cases hl : clauseB vars xss[k]
      · have HN : Hid (goodB vars xss = false) := good_no hlt hl
        go_wp2_with (go_at_call 65; refine (implIsClause_at hr' hl).mono ?_; rintro e w1 ⟨rfl, hb1⟩)
        go_ret
        exact ⟨ret_bool HN.out.symm, btr hB hb1⟩
      · have HN : Hid ((xss.take (k + 1)).all (clauseB vars) = true) := all_step hlt HR.out hl
        clear HR
        go_wp2_with (go_at_call 65; refine (implIsClause_at hr' hl).mono ?_; rintro e w1 ⟨rfl, hb1⟩)
        go_roundw
        case rel => exact ⟨k + 1, by omega, by go_num, HN, HJ.out.grow hb1⟩
        case measure => simp [intOf]; omega
    · obtain rfl : k = xss.length := by omega
      have HN := HR.out
      rw [List.take_length] at HN
      have hd : Hid (goodB vars xss = (inB vars 0 12 && decide ((xss.length : Int) ≤ 60))) := by
        unfold Hid goodB
        rw [HN, Bool.and_true]
        congr 1
        exact decide_eq_decide.2 (by omega)
      clear HR HN
      cases hv : inB vars 0 12
      · go_wp2_with (go_at_call 92; refine (varsOk_any _ _).mono ?_; rw [hv]; rintro e w1 ⟨rfl, rfl⟩)
        go_ret
        exact ⟨ret_bool (by rw [hd.out, hv]; rfl), hB⟩
      · go_wp2_with (go_at_call 92; refine (varsOk_any _ _).mono ?_; rw [hv]; rintro e w1 ⟨rfl, rfl⟩)
        go_ret
        exact ⟨ret_bool (by rw [hd.out, hv]; rfl), hB⟩

/- left out: the seat has no spec.l3Asked -/
end Go.Proofs.Ytbemodacpimiiaa

/- Contracts: truth of clauses and of Cnfs at bits, in the program. -/
namespace Go.Proofs.Ytbemodacpimiiaa
open Go.RowKit

/-- A literal that can be told at bits. -/
def LitS (l : Int) : Prop := l ≠ 0 ∧ -1000 ≤ l ∧ l ≤ 1000
theorem LitS.i64 {l : Int} (h : LitS l) : I64 l := by unfold LitS at h; unfold I64; omega
theorem absV_lit {l : Int} (h : LitS l) : absV l = (l.natAbs : Int) := by
  unfold LitS at h
  unfold absV
  split
  · rw [negV_small (by unfold I64; omega) (by omega)]; omega
  · omega
/-- A bit that is shifted to the end. -/
theorem bit_at (b : Nat) (hb : b < 2 ^ 62) (m : Nat) : bits .and .i64 ((b : Int) / 2 ^ min m 64) 1 = if b.testBit m then 1 else 0 := by
  have e0 : (b : Int) / 2 ^ min m 64 = ((b / 2 ^ min m 64 : Nat) : Int) := by
    rw [Int.natCast_ediv, Int.natCast_pow]; rfl
  rw [e0, and_one _ (Nat.lt_of_le_of_lt (Nat.div_le_self _ _) (Nat.lt_trans hb (by decide)))]
  have h64 : ∀ s, 64 ≤ s → b.testBit s = false := fun s hs => Nat.testBit_lt_two_pow (Nat.lt_of_lt_of_le hb (Nat.pow_le_pow_right (by decide) (by omega)))
  have e : b.testBit m = b.testBit (min m 64) := by
    rcases Nat.lt_or_ge m 64 with h | h
    · rw [Nat.min_eq_left (by omega)]
    · rw [h64 _ h, h64 _ (by omega)]
  rw [e, Nat.testBit_eq_decide_div_mod_eq]
  rcases Nat.mod_two_eq_zero_or_one (b / 2 ^ min m 64) with h | h
  · rw [h]; simp
  · rw [h]; simp

set_option maxRecDepth 100000 in
set_option maxHeartbeats 4000000 in
theorem holds1_any (l : Int) (hl : LitS l) (b g : Nat) (hb : b < 2 ^ 62) (w : World) (k0 : w.cell? ⟨g, 0, none⟩ = some (.int .i64 b)) :
    Calls Try.prog 133 #[.int .i64 l, .pointer (some ⟨g, 0, none⟩)] w fun e w' => e = .returned (.bool (litT b l)) ∧ Below w.heap.size w w' := by
  obtain ⟨m, hm⟩ : ∃ m, l.natAbs = m + 1 := ⟨l.natAbs - 1, by unfold LitS at hl; omega⟩
  have ha := fun W => abs_at hl.i64 (absV_lit hl) W
  have hand := bit_at b hb m
  have hR : Hid (litT b l = (b.testBit (l.natAbs - 1) == decide (0 < l))) := rfl
  rw [hm, show m + 1 - 1 = m by omega] at hR
  rw [hm, show ((m + 1 : Nat) : Int) = (m : Int) + 1 by omega] at ha
  have hw1 : IntKind.i64.wrap ((m : Int) + 1 - 1) = (m : Int) := by rw [IntWalk.i64_in _ (by unfold LitS at hl; omega)]; omega
  have hw2 : IntKind.i64.wrap (m : Int) = (m : Int) := by rw [IntWalk.i64_in _ (by unfold LitS at hl; omega)]
  have hm2 : m ≤ 1000 := by unfold LitS at hl; omega
  generalize b.testBit m = q at *
  clear hm hl
  cases hp : decide (0 < l)
  all_goals
    rw [hp] at hR
    cases q
  all_goals
    simp only [if_true, if_false, Bool.false_eq_true] at hand
    go_enter Try.func133, Try.ntmps133
    go_wp2_with fail
    refine wp_region_held_lit (S := (fun w' => w'.cell? ⟨g, 0, none⟩ = some (.int .i64 b))) 11 [false, false, false, false, false, false, false, false, false, false, false] (by kernel_rfl) (by kernel_rfl) (by kernel_rfl) ?_ ?_
    · exact k0
    intro hS
    (refine wpAnyH_take (i := 0) (v := ?_) rfl (by kernel_rfl) (by kernel_rfl) (by kernel_rfl) (fun _ _ _ h => h) (Or.inl ⟨by rfl, ?_⟩) (by assumption) ?_; rotate_left; (focus (intro w hSw; (try dsimp only at hSw); go_simp; (try with_reducible rfl); done)); (try simp only [put_rules]))
    (refine wpAnyH_take (i := 1) (v := ?_) rfl (by kernel_rfl) (by kernel_rfl) (by kernel_rfl) (fun _ _ _ h => h) (Or.inl ⟨by rfl, ?_⟩) (by assumption) ?_; rotate_left; (focus (intro w hSw; (try dsimp only at hSw); go_simp; (try with_reducible rfl); done)); (try simp only [put_rules]))
    (refine wpAnyH_take (i := 7) (v := ?_) rfl (by kernel_rfl) (by kernel_rfl) (by kernel_rfl) (fun _ _ _ h => h) (Or.inl ⟨by rfl, ?_⟩) (by assumption) ?_; rotate_left; (focus (intro w hSw; (try dsimp only at hSw); go_simp; (try with_reducible rfl); done)); (try simp only [put_rules]))
    (refine wpAnyH_take (i := 8) (v := ?_) rfl (by kernel_rfl) (by kernel_rfl) (by kernel_rfl) (fun _ _ _ h => h) (Or.inl ⟨by rfl, ?_⟩) (by assumption) ?_; rotate_left; (focus (intro w hSw; (try dsimp only at hSw); go_simp; (try with_reducible rfl); done)); (try simp only [put_rules]))
    (refine wpAnyH_ready (rs := [2]) (by kernel_rfl) (by simp) ?_; refine AllReadyH.cons rfl (fun K hK => ?_) AllReadyH.nil)
    go_simp
    go_at_call 131
    refine (ha _).mono ?_
    rintro e w1 ⟨rfl, hb1⟩
    have hB1 := btr (bdr (bb w)) hb1
    have k1 := ((bcell hB1).1 g 0 (World.block_lt_of_cell? _ _ k0)).trans k0
    go_wp2_with fail
    refine hK.out _ _ k1 (fun hS2 => ?_)
    clear hK hS
    (try simp only [put_rules])
    (refine wpAnyH_take (i := 3) (v := ?_) rfl (by kernel_rfl) (by kernel_rfl) (by kernel_rfl) (fun _ _ _ h => h) (Or.inl ⟨by rfl, ?_⟩) (by assumption) ?_; rotate_left; (focus (intro w hSw; (try dsimp only at hSw); go_simp; (try with_reducible rfl); done)); (try simp only [put_rules]))
    (refine wpAnyH_take (i := 4) (v := ?_) rfl (by kernel_rfl) (by kernel_rfl) (by kernel_rfl) (fun _ _ _ h => h) (Or.inl ⟨by rfl, ?_⟩) (by assumption) ?_; rotate_left; (focus (intro w hSw; (try dsimp only at hSw); go_simp; (try with_reducible rfl); done)); (try simp only [put_rules]))
    (refine wpAnyH_take (i := 5) (v := ?_) rfl (by kernel_rfl) (by kernel_rfl) (by kernel_rfl) (fun _ _ _ h => h) (Or.inl ⟨by rfl, ?_⟩) (by assumption) ?_; rotate_left; (focus (intro w hSw; (try dsimp only at hSw); go_simp; (try with_reducible rfl); done)); (try simp only [put_rules]))
    (refine wpAnyH_take (i := 6) (v := ?_) rfl (by kernel_rfl) (by kernel_rfl) (by kernel_rfl) (fun _ _ _ h => h) (Or.inl ⟨by rfl, ?_⟩) (by assumption) ?_; rotate_left; (focus (intro w hSw; (try dsimp only at hSw); go_simp; (try with_reducible rfl); done)); (try simp only [put_rules]))
    (refine wpAnyH_take (i := 9) (v := ?_) rfl (by kernel_rfl) (by kernel_rfl) (by kernel_rfl) (fun _ _ _ h => h) (Or.inl ⟨by rfl, ?_⟩) (by assumption) ?_; rotate_left; (focus (intro w hSw; (try dsimp only at hSw); go_simp; (try with_reducible rfl); done)); (try simp only [put_rules]))
    (refine wpAnyH_take (i := 10) (v := ?_) rfl (by kernel_rfl) (by kernel_rfl) (by kernel_rfl) (fun _ _ _ h => h) (Or.inl ⟨by rfl, ?_⟩) (by assumption) ?_; rotate_left; (focus (intro w hSw; (try dsimp only at hSw); go_simp; (try with_reducible rfl); done)); (try simp only [put_rules]))
    (refine wpAnyH_done (by kernel_rfl) ?_ _)
    go_wp2_with fail
    go_ret
    exact ⟨ret_bool hR.out.symm, hB1⟩

set_option maxRecDepth 100000 in
theorem holds_any (c : List Int) (hc : ∀ l ∈ c, LitS l) (hl : c.length ≤ 1000000) (A : Option Addr) (cap b : Nat) (hb : b < 2 ^ 62) (w : World) (hx : IntsAt w A c) :
    Calls Try.prog 68 #[.slice A c.length cap, .int .i64 b] w fun e w' => e = .returned (.bool (clT c b)) ∧ Below w.heap.size w w' := by
  have hB := bal (bb w) (.cells #[.int .i64 b] 3)
  have k0 : (w.alloc (.cells #[.int .i64 b] 3)).cell? ⟨w.heap.size, 0, none⟩ = some (.int .i64 b) := cell_of_row _ _ _ _ _ _ (heap_alloc_new w _)
  have eg : Enter1 133 := enters_of Try.func133 (by kernel_rfl) rfl
  have hf : FnI LitS (w.alloc (.cells #[.int .i64 b] 3)) 133 #[.pointer (some ⟨w.heap.size, 0, none⟩)] (litT b) := by
    intro x W hx hbl
    exact holds1_any x hx b w.heap.size hb W (((bcell hbl).1 w.heap.size 0 (by simp)).trans k0)
  have hcall := Lib.hid (containsI_any eg c A cap _ (hx.grow hB) hl hc hf)
  rw [show c.any (litT b) = clT c b from rfl] at hcall
  clear hx k0 eg hf
  go_enter Try.func68, Try.ntmps68
  go_wp2_with fail
  refine hcall.out.mono ?_
  rintro e w1 ⟨rfl, hb1⟩
  have hB2 := btr hB hb1
  clear hcall hb1 hB
  go_wp2_with fail
  go_ret
  exact ⟨rfl, hB2⟩

/-- A model: all clauses are true. -/
def modT (xss : List (List Int)) (b : Nat) : Bool := xss.all fun c => clT c b
def ClS (c : List Int) : Prop := (∀ l ∈ c, LitS l) ∧ c.length ≤ 1000
set_option maxRecDepth 100000 in
theorem isModel1_any (c : List Int) (hc : ClS c) (A : Option Addr) (cap b g : Nat) (hb : b < 2 ^ 62) (w : World) (hx : IntsAt w A c) (k0 : w.cell? ⟨g, 0, none⟩ = some (.int .i64 b)) :
    Calls Try.prog 159 #[.slice A c.length cap, .pointer (some ⟨g, 0, none⟩)] w fun e w' => e = .returned (.bool (!(clT c b))) ∧ Below w.heap.size w w' := by
  have hcall := Lib.hid (holds_any c hc.1 (by have := hc.2; omega) A cap b hb w hx)
  clear hx
  go_enter Try.func159, Try.ntmps159
  go_wp2_with fail
  refine hcall.out.mono ?_
  rintro e w1 ⟨rfl, hb1⟩
  clear hcall
  go_wp2_with fail
  go_ret
  exact ⟨rfl, hb1⟩

set_option maxRecDepth 100000 in
theorem isModel_any (xss : List (List Int)) (hc : ∀ c ∈ xss, ClS c) (hl : xss.length ≤ 1000000) (A : Option Addr) (cap b : Nat) (hb : b < 2 ^ 62) (w : World) (hx : ClsAt w A xss) :
    Calls Try.prog 106 #[.slice A xss.length cap, .int .i64 b] w fun e w' => e = .returned (.bool (modT xss b)) ∧ Below w.heap.size w w' := by
  have hB := bal (bb w) (.cells #[.int .i64 b] 3)
  have k0 : (w.alloc (.cells #[.int .i64 b] 3)).cell? ⟨w.heap.size, 0, none⟩ = some (.int .i64 b) := cell_of_row _ _ _ _ _ _ (heap_alloc_new w _)
  have eg : Enter1 159 := enters_of Try.func159 (by kernel_rfl) rfl
  have hf : FnS ClS (w.alloc (.cells #[.int .i64 b] 3)) 159 #[.pointer (some ⟨w.heap.size, 0, none⟩)] (fun c => !(clT c b)) := by
    intro x B cp W hI hx hbl
    exact isModel1_any x hx B cp b w.heap.size hb W hI (((bcell hbl).1 w.heap.size 0 (by simp)).trans k0)
  have hcall := Lib.hid (containsS_any eg xss A cap _ (hx.grow hB) hl hc hf)
  have hR : Hid (modT xss b = !(xss.any fun c => !(clT c b))) := by
    unfold Hid modT
    rw [List.all_eq_not_any_not]
  generalize (xss.any fun c => !(clT c b)) = q at *
  clear hx k0 eg hf
  go_enter Try.func106, Try.ntmps106
  go_wp2_with fail
  refine hcall.out.mono ?_
  rintro e w1 ⟨rfl, hb1⟩
  have hB2 := btr hB hb1
  clear hcall hb1 hB
  go_wp2_with fail
  go_ret
  exact ⟨ret_bool hR.out.symm, hB2⟩
end Go.Proofs.Ytbemodacpimiiaa

/- Contracts: all models in order, in the program. -/
namespace Go.Proofs.Ytbemodacpimiiaa
open Go.RowKit

theorem pow12 {v : Nat} (hv : v ≤ 12) : wrap64 ((2 : Int) ^ v) = ((2 ^ v : Nat) : Int) ∧ 2 ^ v ≤ 4096 := by
  match v, hv with
  | 0, _ | 1, _ | 2, _ | 3, _ | 4, _ | 5, _ | 6, _ | 7, _ | 8, _ | 9, _ | 10, _ | 11, _ | 12, _ => exact ⟨by unfold wrap64; decide, by decide⟩

set_option maxRecDepth 100000 in
set_option maxHeartbeats 4000000 in
theorem models_any {g : FuncId} {cb : Array Value} (eg : Enter1 g) (n : Nat) (hn : n ≤ 12) (xss : List (List Int)) (hc : ∀ c ∈ xss, ClS c) (hl : xss.length ≤ 1000000) (A : Option Addr) (cap : Nat) (w : World)
    (F : List Nat) (hF : ∀ b ∈ F, b < w.heap.size) (P : Nat → World → Prop) (h0 : P 0 w) (hgrow : ∀ k w w', P k w → Below w.heap.size w w' → P k w') (hcls : ∀ k w, P k w → ClsAt w A xss)
    (hnot : ∀ k w, modT xss k = false → P k w → P (k + 1) w)
    (hstep : ∀ k w, k < 2 ^ n → modT xss k = true → P k w → Calls Try.prog g (#[.int .i64 k] ++ cb) w fun e w' => ∃ q : Bool, e = .returned (.bool q) ∧ Chg F w w' ∧ (if q then P (k + 1) w' else P (2 ^ n) w')) :
    Calls Try.prog 139 #[.agg #[.int .i64 n, .slice A xss.length cap], .func (.func g) #[] cb] w fun e w' => e = .returned (.tuple #[]) ∧ P (2 ^ n) w' := by
  unfold Enter1 at eg
  obtain ⟨hsh, hp⟩ := pow12 hn
  generalize 2 ^ n = N at *
  have c0 : (w.alloc (.cells #[.int .i64 n, .slice A xss.length cap] 26)).cell? ⟨w.heap.size, 0, none⟩ = some (.int .i64 n) := cell_of_row _ _ _ _ _ _ (heap_alloc_new w _)
  have c1 : (w.alloc (.cells #[.int .i64 n, .slice A xss.length cap] 26)).cell? ⟨w.heap.size, 1, none⟩ = some (.slice A xss.length cap) := cell_of_row _ _ _ _ _ _ (heap_alloc_new w _)
  have HP0 := Lib.hid (hgrow 0 w _ h0 (bal (bb w) (.cells #[.int .i64 n, .slice A xss.length cap] 26)))
  have hFF : w.heap.size ∉ F := fun h => by have := hF _ h; omega
  replace hgrow := Lib.hid hgrow
  replace hcls := Lib.hid hcls
  replace hnot := Lib.hid hnot
  replace hstep := Lib.hid hstep
  have hcc := Lib.hid hc
  replace hFF := Lib.hid hFF
  clear h0 hc hF
  go_enter Try.func139, Try.ntmps139
  go_wp2_with fail
  rw [hsh]
  go_loopw [4, 8] (fun _ i wr => ∃ k : Nat, k ≤ N ∧ i = .int .i64 k ∧ wr.cell? ⟨w.heap.size, 1, none⟩ = some (.slice A xss.length cap) ∧ Hid (P k wr)) (fun _ i _ => N - (intOf i).toNat)
  case atStart => exact ⟨0, Nat.zero_le _, rfl, c1, HP0⟩
  case round =>
    obtain ⟨k, hk, rfl, d1, HP⟩ := hrel
    clear HP0 c0 c1
    by_cases hlt : k < N
    · have hcall := Lib.hid (isModel_any xss hcc.out hl A cap k (Nat.lt_of_lt_of_le hlt (Nat.le_trans hp (by decide))) wr (hcls.out k wr HP.out))
      cases hq : modT xss k
      · rw [hq] at hcall
        go_wp2_with fail
        refine hcall.out.mono ?_
        rintro e w1 ⟨rfl, hb1⟩
        have HP2 := Lib.hid (hnot.out k w1 hq (hgrow.out k wr w1 HP.out hb1))
        have d2 := ((bcell hb1).1 _ _ (World.block_lt_of_cell? _ _ d1)).trans d1
        clear hcall hb1 HP d1
        go_wp2_with fail
        go_roundw
        case rel => exact ⟨k + 1, by omega, by go_num, d2, HP2⟩
        case measure => simp [intOf]; omega
      · rw [hq] at hcall
        go_wp2_with fail
        refine hcall.out.mono ?_
        rintro e w1 ⟨rfl, hb1⟩
        have hst := Lib.hid (hstep.out k w1 hlt hq (hgrow.out k wr w1 HP.out hb1))
        have d2 := ((bcell hb1).1 _ _ (World.block_lt_of_cell? _ _ d1)).trans d1
        clear hcall hb1 HP d1
        go_wp2_with fail
        refine hst.out.mono ?_
        rintro e w2 ⟨q, rfl, hch, hP2⟩
        have d3 := (World.cell?_of_block (a := ⟨w.heap.size, 1, none⟩) (hch.block _ (World.block_lt_of_cell? _ _ d2) hFF.out)).trans d2
        cases q
        · replace hP2 := Lib.hid hP2
          clear hst hch d2
          go_wp2_with fail
          have hP3 : P N w2 := hP2.out
          exact bodyPost_ret (v := .tuple #[]) (by simp [results, Try.results139, go_sem]) rfl ⟨rfl, hP3⟩
        · have HP2 : Hid (P (k + 1) w2) := hP2
          clear hst hch d2 hP2
          go_wp2_with fail
          go_roundw
          case rel => exact ⟨k + 1, by omega, by go_num, d3, HP2⟩
          case measure => simp [intOf]; omega
    · obtain rfl : k = N := by omega
      go_wp2_with fail
      exact bodyPost_end (v := .tuple #[]) (by simp [results, Try.results139, go_sem]) rfl ⟨rfl, HP.out⟩
end Go.Proofs.Ytbemodacpimiiaa

/- Contracts: satisfiable Cnfs, counts of models, in the program. -/
namespace Go.Proofs.Ytbemodacpimiiaa
open Go.RowKit

/-- From a row of rows to clauses that can be read. -/
theorem cls_row {wr : Bool} {w : World} {v : Value} {xss : List (List Int)} {F : List Nat} (h : (Ty.slice Ty.int).row wr w v xss F) : ∃ A c, v = .slice A xss.length c ∧ ClsAt w A xss := by
  obtain ⟨a, cap, rfl, _, _, h3⟩ := row_slices h
  refine ⟨a, cap, rfl, ⟨fun j hj => ?_⟩⟩
  rcases h3 with ⟨rfl, _⟩ | ⟨_, b, off, rfl, _, hc⟩
  · exact absurd hj (by simp)
  · obtain ⟨u, Fk, hu, hr, _⟩ := hc j hj
    obtain ⟨B, c, rfl, hI⟩ := ints_row hr
    exact ⟨b, off, B, c, rfl, hu.1, hI⟩
theorem lit_small {vars l : Int} (hv : 0 ≤ vars ∧ vars ≤ 12) (h : litB vars l = true) : l ≠ 0 ∧ -vars ≤ l ∧ l ≤ vars := by
  unfold litB inB at h
  rw [negV_small (by unfold I64; omega) (by omega)] at h
  simp only [Bool.and_eq_true, decide_eq_true_eq, bne_iff_ne] at h
  omega
theorem clause_parts {vars : Int} {c : List Int} (h : clauseB vars c = true) : (0 ≤ vars ∧ vars ≤ 12) ∧ (∀ l ∈ c, l ≠ 0 ∧ -vars ≤ l ∧ l ≤ vars) ∧ ∀ i (h : i + 1 < c.length), c[i].natAbs < c[i + 1].natAbs := by
  unfold clauseB inB cOkTo at h
  simp only [Bool.and_eq_true, decide_eq_true_eq, List.all_eq_true, List.mem_range] at h
  obtain ⟨hv, hc⟩ := h
  have hlit : ∀ i (hi : i < c.length), litB vars c[i] = true := fun i hi => by
    have := hc i hi
    unfold cOk at this
    rw [Bool.and_eq_true, List.getD_eq_getElem?_getD, List.getElem?_eq_getElem hi] at this
    exact this.1
  refine ⟨hv, fun l hl => ?_, fun i hi => ?_⟩
  · obtain ⟨i, hi, rfl⟩ := List.getElem_of_mem hl
    exact lit_small hv (hlit i hi)
  · have h1 := hc (i + 1) hi
    unfold cOk at h1
    rw [Bool.and_eq_true, Bool.or_eq_true] at h1
    have h2 := h1.2
    simp only [beq_iff_eq, Nat.add_eq_zero_iff, Nat.succ_ne_self, and_false, false_or, decide_eq_true_eq, Nat.add_sub_cancel] at h2
    rw [List.getD_eq_getElem?_getD, List.getD_eq_getElem?_getD, List.getElem?_eq_getElem hi, List.getElem?_eq_getElem (by omega)] at h2
    simp only [Option.getD_some] at h2
    have a1 := lit_small hv (hlit i (by omega))
    have a2 := lit_small hv (hlit (i + 1) hi)
    rw [absV_lit ⟨a1.1, by omega, by omega⟩, absV_lit ⟨a2.1, by omega, by omega⟩] at h2
    omega
theorem clause_rising {vars : Int} {c : List Int} (h : clauseB vars c = true) : c.Pairwise (fun a b => a.natAbs < b.natAbs) := by
  have h3 := (clause_parts h).2.2
  clear h
  induction c with
  | nil => exact .nil
  | cons a c ih =>
    have hc := ih (fun i hi => by have := h3 (i + 1) (by simp; omega); simpa using this)
    refine List.pairwise_cons.2 ⟨fun b hb => ?_, hc⟩
    cases c with
    | nil => simp at hb
    | cons d c =>
      have h0 := h3 0 (by simp)
      simp only [List.getElem_cons_zero, List.getElem_cons_succ] at h0
      rcases List.mem_cons.1 hb with rfl | hb
      · exact h0
      · exact Nat.lt_trans h0 ((List.pairwise_cons.1 hc).1 b hb)
theorem rising_len {m : Nat} : ∀ {c : List Int} {k : Nat}, c.Pairwise (fun a b => a.natAbs < b.natAbs) → (∀ l ∈ c, k ≤ l.natAbs ∧ l.natAbs < k + m) → c.length ≤ m
  | [], _, _, _ => by simp
  | a :: c, k, hp, hb => by
    have ha := hb a (by simp)
    have hp' := List.pairwise_cons.1 hp
    have := rising_len (m := m - (a.natAbs - k) - 1) (k := a.natAbs + 1) hp'.2 (fun l hl => by have := hp'.1 l hl; have := hb l (by simp [hl]); omega)
    simp only [List.length_cons]
    omega
theorem clause_s {vars : Int} {c : List Int} (h : clauseB vars c = true) : ClS c := by
  have hp := clause_parts h
  refine ⟨fun l hl => ?_, ?_⟩
  · have := hp.2.1 l hl
    exact ⟨this.1, by omega, by omega⟩
  · have := rising_len (m := 12) (k := 1) (clause_rising h) (fun l hl => by have := hp.2.1 l hl; omega)
    omega
theorem good_cnf {vars : Int} {xss : List (List Int)} (h : goodB vars xss = true) : (0 ≤ vars ∧ vars ≤ 12) ∧ xss.length ≤ 60 ∧ (∀ c ∈ xss, clauseB vars c = true) ∧ ∀ c ∈ xss, ClS c := by
  unfold goodB inB at h
  simp only [Bool.and_eq_true, decide_eq_true_eq, List.all_eq_true] at h
  exact ⟨h.1.1, h.1.2, h.2, fun c hc => clause_s (h.2 c hc)⟩

set_option maxRecDepth 100000 in
set_option maxHeartbeats 4000000 in
theorem satisfiable_any (n : Nat) (hn : n ≤ 12) (xss : List (List Int)) (hc : ∀ c ∈ xss, ClS c) (hl : xss.length ≤ 1000000) (A : Option Addr) (cap : Nat) (w : World) (hx : ClsAt w A xss) :
    Calls Try.prog 74 #[.int .i64 n, .slice A xss.length cap] w fun e w' => e = .returned (.bool ((List.range (2 ^ n)).any (modT xss))) ∧ Below w.heap.size w w' := by
  have eg : Enter1 140 := enters_of Try.func140 (by kernel_rfl) rfl
  have S0 := (Sp.start w).alloc_box #[.bool false] 4
  have hcall := Lib.hid (models_any (cb := #[.pointer (some ⟨w.heap.size, 0, none⟩)]) eg n hn xss hc hl A cap (w.alloc (.cells #[.bool false] 4)) [w.heap.size] (by simp)
    (fun k W => Sp w W [Box w.heap.size 4 #[.bool ((List.range k).any (modT xss))]]) S0 (fun k W W' h hb => h.grow hb) (fun k W h => hx.grow h.below)
    (fun k W hm h => by rw [show (List.range (k + 1)).any (modT xss) = (List.range k).any (modT xss) by rw [List.range_succ, List.any_append]; simp [hm]]; exact h)
    (fun k W hk hm h => by
      have f0 := h.frozen (i := 0) rfl 0
      have c0 := h.cell (i := 0) rfl (o := 0) rfl
      have S1 := Lib.hid (h.store (i := 0) rfl 0 (.bool true))
      have hch := Lib.hid ((Chg.refl [w.heap.size] W).set (p := ⟨w.heap.size, 0, none⟩) (by simp) (.bool true))
      have hany : (List.range (2 ^ n)).any (modT xss) = true := List.any_eq_true.2 ⟨k, List.mem_range.2 hk, hm⟩
      rw [hany]
      clear h
      show Calls Try.prog 140 #[.int .i64 k, .pointer (some ⟨w.heap.size, 0, none⟩)] W _
      go_enter Try.func140, Try.ntmps140
      go_wp2_with fail
      go_ret
      exact ⟨false, rfl, hch.out, S1.out⟩))
  generalize (List.range (2 ^ n)).any (modT xss) = q at *
  clear eg S0 hx hc
  go_enter Try.func74, Try.ntmps74
  go_wp2_with fail
  refine hcall.out.mono ?_
  rintro e w1 ⟨rfl, S1⟩
  have c1 := S1.cell (i := 0) rfl (o := 0) rfl
  have hB := S1.below
  clear hcall S1
  go_wp2_with fail
  go_ret
  exact ⟨rfl, hB⟩

set_option maxRecDepth 100000 in
set_option maxHeartbeats 4000000 in
theorem isSatisfiable_any (vars : Int) (v : Value) (xss : List (List Int)) (F : List Nat) (w : World) (hx : (Ty.slice Ty.int).row false w v xss F) :
    Calls Try.prog 20 #[.agg #[.int .i64 vars, v]] w fun e w' => e = .returned (.tuple #[.bool (goodB vars xss && (List.range (2 ^ vars.toNat)).any (modT xss)), .bool (goodB vars xss)]) ∧ Below w.heap.size w w' := by
  obtain ⟨A, cap, rfl, hI⟩ := cls_row hx
  have S0 := (Sp.start w).alloc_box #[.int .i64 vars, .slice A xss.length cap] 26
  have hcall := Lib.hid (implIsCnf_any vars _ xss F _ (Ty.row_below hx S0.below (Ty.row_lt hx)))
  replace S0 := Lib.hid S0
  cases h1 : goodB vars xss
  · rw [h1] at hcall
    clear hx hI
    go_enter Try.func20, Try.ntmps20
    go_wp2_with fail
    refine hcall.out.mono ?_
    rintro e w1 ⟨rfl, hb1⟩
    have hB := (S0.out.grow hb1).below
    clear S0 hcall hb1
    go_wp2_with fail
    go_ret2
    exact ⟨rfl, hB⟩
  · have hg := good_cnf h1
    rw [h1] at hcall
    obtain ⟨n, rfl⟩ := Int.eq_ofNat_of_zero_le hg.1.1
    have hsat := Lib.hid (fun W hb => satisfiable_any n (by omega) xss hg.2.2.2 (by omega) A cap W (hI.grow hb))
    rw [show (n : Int).toNat = n by omega]
    generalize (List.range (2 ^ n)).any (modT xss) = q at *
    clear hx hI hg
    go_enter Try.func20, Try.ntmps20
    go_wp2_with fail
    refine hcall.out.mono ?_
    rintro e w1 ⟨rfl, hb1⟩
    have S1 := S0.out.grow hb1
    have c0 := S1.cell (i := 0) rfl (o := 0) rfl
    have c1 := S1.cell (i := 0) rfl (o := 1) rfl
    have hs2 := Lib.hid (hsat.out _ S1.below)
    replace S1 := Lib.hid S1
    clear S0 hcall hb1 hsat
    go_wp2_with fail
    refine hs2.out.mono ?_
    rintro e w2 ⟨rfl, hb2⟩
    have hB := (S1.out.grow hb2).below
    clear S1 hs2 hb2
    go_wp2_with fail
    go_ret2
    exact ⟨rfl, hB⟩
end Go.Proofs.Ytbemodacpimiiaa

/- Contracts: a number in a row, in the reference. -/
namespace Go.Proofs.Ytbemodacpimiiaa
open Go.RowKit

/-- A number is in a row. -/
def hasI (xs : List Int) (x : Int) : Bool := xs.contains x
theorem hasI_no {xs : List Int} {x : Int} {k : Nat} (hk : k < xs.length) (h0 : hasI (xs.take k) x = false) (h : ¬ xs[k] = x) : hasI (xs.take (k + 1)) x = false := by
  unfold hasI at *
  rw [List.take_succ_eq_append_getElem hk, List.contains_append, h0]
  simp
  exact fun e => h e.symm
theorem hasI_yes {xs : List Int} {x : Int} {k : Nat} (hk : k < xs.length) (h : xs[k] = x) : hasI xs x = true := by
  unfold hasI
  subst h
  simp

set_option maxHeartbeats 1000000 in
theorem l1Has_any (v : Value) (xs : List Int) (F : List Nat) (x : Int) (w : World) (h : Ty.int.row false w v xs F) :
    Calls Try.prog 150 #[v, .int .i64 x] w fun e w' => e = .returned (.bool (hasI xs x)) ∧ w = w' := by
  obtain ⟨a, cap, rfl, hx1, hx2, _, hx3⟩ := row_int h
  go_enter Try.func150, Try.ntmps150
  go_wp2_with fail
  go_loopw [5] (fun i wr => ∃ k : Nat, k ≤ xs.length ∧ i = .int .i64 k ∧ Hid (hasI (xs.take k) x = false) ∧ w = wr) (fun i _ => xs.length - (intOf i).toNat)
  case atStart => exact ⟨0, Nat.zero_le _, rfl, by simp [Hid, hasI], rfl⟩
  case round =>
    obtain ⟨k, hk, rfl, HR, rfl⟩ := hrel
    by_cases hlt : k < xs.length
    · rcases hx3 with ⟨rfl, rfl⟩ | ⟨hxn, b, off, rfl, rfl, hxc⟩
      · exact absurd hlt (by simp)
      have k0 := (hxc k hlt).1
      by_cases he : xs[k] = x
      · have HN : Hid (hasI xs x = true) := hasI_yes hlt he
        have he' : (xs[k] == x) = true := by simpa using he
        clear he HR
        go_wp2_with fail
        go_ret
        exact ⟨ret_bool HN.out.symm, rfl⟩
      · have HN : Hid (hasI (xs.take (k + 1)) x = false) := hasI_no hlt HR.out he
        have he' : (xs[k] == x) = false := by simpa using he
        clear he HR
        go_wp2_with fail
        go_roundw
        case rel => exact ⟨k + 1, by omega, by go_num, HN, by first | rfl | trivial⟩
        case measure => simp [intOf]; omega
    · obtain rfl : k = xs.length := by omega
      have HN := HR.out
      rw [List.take_length] at HN
      replace HN := Lib.hid HN
      clear HR
      go_wp2_with fail
      go_ret
      exact ⟨ret_bool HN.out.symm, rfl⟩

set_option maxHeartbeats 1000000 in
theorem l2Has_any (v : Value) (xs : List Int) (F : List Nat) (x : Int) (w : World) (h : Ty.int.row false w v xs F) :
    Calls Try.prog 88 #[v, .int .i64 x] w fun e w' => e = .returned (.bool (hasI xs x)) ∧ w = w' := by
  go_enter Try.func88, Try.ntmps88
  go_wp2_with (go_at_call 150; refine (l1Has_any _ _ _ _ _ h).mono ?_; rintro e w1 ⟨rfl, rfl⟩)
  go_ret
  exact ⟨rfl, rfl⟩
theorem l2Has_at {v : Value} {xs : List Int} {F : List Nat} {x : Int} {w : World} {q : Bool} (h : Ty.int.row false w v xs F) (hq : hasI xs x = q) :
    Calls Try.prog 88 #[v, .int .i64 x] w fun e w' => e = .returned (.bool q) ∧ w = w' := hq ▸ l2Has_any v xs F x w h
end Go.Proofs.Ytbemodacpimiiaa

/- Contracts: the cursor that draws from bytes. -/
namespace Go.Proofs.Ytbemodacpimiiaa
open Go.RowKit

/-- The bytes that a slice holds can be read. -/
def CodeOk (w : World) (ca : Option Addr) (cl : Nat) : Prop := ∀ j, j < cl → ∃ cb off x, ca = some ⟨cb, off, none⟩ ∧ w.cell? ⟨cb, off + j, none⟩ = some (.int .u8 x) ∧ 0 ≤ x ∧ x ≤ 255
/-- The cursor's block. -/
structure CurIs (A : Nat) (g : Nat) (ca : Option Addr) (cl cc : Nat) (w : World) : Prop where
  ok : ∃ (i : Nat) (s : Int), w.heap[g]? = some (.cells #[.slice ca cl cc, .int .i64 i, .int .u64 s] 98 (0, 0)) ∧ i ≤ A ∧ 0 ≤ s ∧ s < 18446744073709551616
  code : CodeOk w ca cl
  far : 0 < cl → ∀ a, ca = some a → a.block ≠ g
  small : cl ≤ 65536
theorem CodeOk.keep {w w' : World} {ca : Option Addr} {cl : Nat} (h : CodeOk w ca cl) (hk : ∀ a, ca = some a → w'.heap[a.block]? = w.heap[a.block]?) : CodeOk w' ca cl := fun j hj => by
  obtain ⟨cb, off, x, rfl, h1, h2⟩ := h j hj
  exact ⟨cb, off, x, rfl, (World.cell?_of_block (a := ⟨cb, off + j, none⟩) (hk ⟨cb, off, none⟩ rfl)).trans h1, h2⟩
theorem CodeOk.lt {w : World} {ca : Option Addr} {cl : Nat} (h : CodeOk w ca cl) (hl : 0 < cl) : ∀ a, ca = some a → a.block < w.heap.size := by
  obtain ⟨cb, off, x, rfl, h1, _⟩ := h 0 hl
  rintro a e
  cases e
  exact World.block_lt_of_cell? _ _ h1
theorem CodeOk.zero (w : World) (ca : Option Addr) : CodeOk w ca 0 := fun j hj => absurd hj (by omega)
theorem CodeOk.grow {w w' : World} {ca : Option Addr} {cl : Nat} (h : CodeOk w ca cl) (hb : Below w.heap.size w w') : CodeOk w' ca cl := by
  rcases Nat.eq_zero_or_pos cl with rfl | hl
  · exact .zero _ _
  · exact h.keep fun a ha => hb.block _ (h.lt hl a ha)
theorem CurIs.lt {A g : Nat} {ca : Option Addr} {cl cc : Nat} {w : World} (h : CurIs A g ca cl cc w) : g < w.heap.size := by
  obtain ⟨i, s, h, _⟩ := h.ok
  rcases Nat.lt_or_ge g w.heap.size with h' | h'
  · exact h'
  · rw [Array.getElem?_eq_none h'] at h; cases h
theorem CurIs.mono {A A' g : Nat} {ca : Option Addr} {cl cc : Nat} {w : World} (h : CurIs A g ca cl cc w) (hA : A ≤ A') : CurIs A' g ca cl cc w := by
  obtain ⟨⟨i, s, h1, h2, h3⟩, h4, h5, h6⟩ := h
  exact ⟨⟨i, s, h1, by omega, h3⟩, h4, h5, h6⟩
theorem CurIs.grow {A g : Nat} {ca : Option Addr} {cl cc : Nat} {w w' : World} (h : CurIs A g ca cl cc w) (hb : Below w.heap.size w w') : CurIs A g ca cl cc w' := by
  have hlt := h.lt
  obtain ⟨⟨i, s, h1, h2⟩, h4, h5, h6⟩ := h
  refine ⟨⟨i, s, (hb.block g hlt).trans h1, h2⟩, ?_, h5, h6⟩
  rcases Nat.eq_zero_or_pos cl with rfl | hl
  · exact .zero _ _
  · exact h4.keep fun a ha => hb.block _ (h4.lt hl a ha)
/-- A call that turns the cursor alone. -/
def CurPost (R : Value → Prop) (A g : Nat) (ca : Option Addr) (cl cc : Nat) (w : World) (e : Ending) (w' : World) : Prop := ∃ v, R v ∧ e = .returned v ∧ CurIs A g ca cl cc w' ∧ Chg [g] w w'
/-- A number in bounds. -/
def IntIn (lo hi : Int) (v : Value) : Prop := ∃ n : Int, lo ≤ n ∧ n ≤ hi ∧ v = .int .i64 n
/-- The part of the memory that the cursor is. -/
def CurA (A g : Nat) (ca : Option Addr) (cl cc : Nat) : Asn where
  p w F := F = [g] ∧ ∃ (i : Nat) (s : Int), w.heap[g]? = some (.cells #[.slice ca cl cc, .int .i64 i, .int .u64 s] 98 (0, 0)) ∧ i ≤ A ∧ 0 ≤ s ∧ s < 18446744073709551616
  lt := by
    rintro w F ⟨rfl, i, s, h, _⟩ b hb
    obtain rfl : b = g := by simpa using hb
    rcases Nat.lt_or_ge b w.heap.size with h' | h'
    · exact h'
    · rw [Array.getElem?_eq_none h'] at h; cases h
  keep := by
    rintro w w' F ⟨rfl, i, s, h, h2⟩ hk
    exact ⟨rfl, i, s, (hk g (by simp)).trans h, h2⟩
section
variable {w0 w w' : World} {ps : List Asn} {i A A' g cl cc : Nat} {ca : Option Addr}
theorem Sp.cur (h : Sp w0 w ps) (hi : ps[i]? = some (CurA A g ca cl cc)) (hc : CodeOk w0 ca cl) (hs : cl ≤ 65536) :
    CurIs A g ca cl cc w ∧ ∀ w', CurIs A' g ca cl cc w' → Chg [g] w w' → Sp w0 w' (ps.set i (CurA A' g ca cl cc)) := by
  obtain ⟨F, ⟨rfl, hh⟩, hF, hall⟩ := h.upd hi
  have hg := hF g (by simp)
  refine ⟨⟨hh, hc.grow h.below, fun hp a ha => by have := hc.lt hp a ha; omega, hs⟩, fun w' h1 h2 => hall w' _ [g] h2 ⟨rfl, h1.ok⟩ fun b hb => .inl hb⟩
end

theorem u64_in (x : Int) : 0 ≤ IntKind.u64.wrap x ∧ IntKind.u64.wrap x < 18446744073709551616 := by
  have h : IntKind.u64.wrap x = x % 18446744073709551616 := by rfl
  rw [h]; omega
theorem and255 (y : Int) : 0 ≤ bits .and .u64 y 255 ∧ bits .and .u64 y 255 ≤ 255 := by
  have h : bits .and .u64 y 255 = IntKind.u64.wrap (((BitVec.ofInt 64 y &&& BitVec.ofInt 64 255).toNat : Nat) : Int) := rfl
  have h2 : (BitVec.ofInt 64 y &&& BitVec.ofInt 64 255).toNat ≤ 255 := by
    rw [BitVec.toNat_and]
    exact Nat.le_trans Nat.and_le_right (by decide)
  rw [h, IntKind.wrap_u64]
  omega
theorem and255w (y : Int) : 0 ≤ wrap64 (bits .and .u64 y 255) ∧ wrap64 (bits .and .u64 y 255) ≤ 255 := by
  have := and255 y
  unfold wrap64
  omega
theorem cur_step {A g cl cc i : Nat} {ca : Option Addr} {w : World} {s s' : Int} (hg : w.heap[g]? = some (.cells #[.slice ca cl cc, .int .i64 i, .int .u64 s] 98 (0, 0))) (hi : i ≤ A) (hs : 0 ≤ s' ∧ s' < 18446744073709551616)
    (hcode : CodeOk w ca cl) (hfar : 0 < cl → ∀ a, ca = some a → a.block ≠ g) (hsm : cl ≤ 65536) (n m : Nat) :
    CurIs (A + 1) g ca cl cc ((((w.drewN n).setCell ⟨g, 1, none⟩ (.int .i64 ((i : Int) + 1))).setCell ⟨g, 2, none⟩ (.int .u64 s')).drewN m) ∧ Chg [g] w ((((w.drewN n).setCell ⟨g, 1, none⟩ (.int .i64 ((i : Int) + 1))).setCell ⟨g, 2, none⟩ (.int .u64 s')).drewN m) := by
  have hother : ∀ k, k ≠ g → ((((w.drewN n).setCell ⟨g, 1, none⟩ (.int .i64 ((i : Int) + 1))).setCell ⟨g, 2, none⟩ (.int .u64 s')).drewN m).heap[k]? = w.heap[k]? := fun k hk => by
    show (((w.drewN n).setCell ⟨g, 1, none⟩ (.int .i64 ((i : Int) + 1))).setCell ⟨g, 2, none⟩ (.int .u64 s')).heap[k]? = _
    rw [Below.heap_setCell _ _ _ _ hk, Below.heap_setCell _ _ _ _ hk]
    rfl
  have hg' : (w.drewN n).heap[g]? = some (.cells #[.slice ca cl cc, .int .i64 i, .int .u64 s] 98 (0, 0)) := hg
  have hcodeN : CodeOk ((((w.drewN n).setCell ⟨g, 1, none⟩ (.int .i64 ((i : Int) + 1))).setCell ⟨g, 2, none⟩ (.int .u64 s')).drewN m) ca cl := by
    rcases Nat.eq_zero_or_pos cl with h0 | hp
    · rw [h0]; exact .zero _ _
    · exact hcode.keep fun a ha => hother _ (hfar hp a ha)
  refine ⟨⟨⟨i + 1, s', ?_, by omega, hs⟩, hcodeN, hfar, hsm⟩, ⟨rfl, rfl, rfl, by show _ ≤ (((w.drewN n).setCell _ _).setCell _ _).heap.size; simp [World.setCell], fun k _ hn => hother k (by simpa using hn)⟩⟩
  show (((w.drewN n).setCell ⟨g, 1, none⟩ (.int .i64 ((i : Int) + 1))).setCell ⟨g, 2, none⟩ (.int .u64 s')).heap[g]? = _
  simp [World.setCell, Array.getElem?_modify]
  exact ⟨_, hg', rfl⟩

set_option maxRecDepth 100000 in
set_option maxHeartbeats 2000000 in
theorem cur_next (A g : Nat) (ca : Option Addr) (cl cc : Nat) (w : World) (h : CurIs A g ca cl cc w) (hA : A ≤ 1000000000) :
    Calls Try.prog 144 #[.pointer (some ⟨g, 0, none⟩)] w (CurPost (IntIn 0 255) (A + 1) g ca cl cc w) := by
  obtain ⟨⟨i, s, hg, hiA, hs0, hs1⟩, hcode, hfar, hsm⟩ := h
  have S0 : Sp w w [] := Sp.start w
  have c0 : w.cell? ⟨g, 0, none⟩ = some (.slice ca cl cc) := by simp [World.cell?, hg]
  have c1 : w.cell? ⟨g, 1, none⟩ = some (.int .i64 i) := by simp [World.cell?, hg]
  have c2 : w.cell? ⟨g, 2, none⟩ = some (.int .u64 s) := by simp [World.cell?, hg]
  have f1 : w.frozen? ⟨g, 1, none⟩ = false := by simp [World.frozen?, hg]
  have f2 : w.frozen? ⟨g, 2, none⟩ = false := by simp [World.frozen?, hg]
  by_cases hlt : i < cl
  · obtain ⟨cb, off, x, rfl, hx, hx0, hx1⟩ := hcode i hlt
    have hne := hfar (by omega) _ rfl
    have hlt' : (i : Int) < (cl : Int) := by omega
    go_enter Try.func144, Try.ntmps144
    go_wp2_with fail
    go_quiet (fail)
    go_wp2_with fail
    go_quiet (fail)
    go_wp2_with fail
    go_quiet (fail)
    go_wp2_with fail
    go_ret
    obtain ⟨h1, h2⟩ := cur_step hg hiA (u64_in _) hcode hfar hsm _ _
    exact ⟨_, ⟨x, hx0, hx1, rfl⟩, rfl, h1, h2⟩
  · have hge : ¬ (i : Int) < (cl : Int) := by omega
    go_enter Try.func144, Try.ntmps144
    go_wp2_with fail
    go_quiet (fail)
    go_wp2_with fail
    go_quiet (fail)
    go_wp2_with fail
    go_ret
    obtain ⟨h1, h2⟩ := cur_step hg hiA (u64_in _) hcode hfar hsm _ _
    exact ⟨_, ⟨_, (and255w _).1, (and255w _).2, rfl⟩, rfl, h1, h2⟩

theorem Chg.cell {F : List Nat} {w w' : World} {b o : Nat} {v : Value} (h : Chg F w w') (hc : w.cell? ⟨b, o, none⟩ = some v) (hb : b ∉ F) : w'.cell? ⟨b, o, none⟩ = some v :=
  (World.cell?_of_block (a := ⟨b, o, none⟩) (h.block b (World.block_lt_of_cell? _ _ hc) hb)).trans hc

set_option maxHeartbeats 2000000 in
theorem cur_pick (n : Int) (A g : Nat) (ca : Option Addr) (cl cc : Nat) (w : World) (h : CurIs A g ca cl cc w) (hA : A ≤ 100000000) (hn : n ≤ 1000000000) :
    Calls Try.prog 77 #[.pointer (some ⟨g, 0, none⟩), .int .i64 n] w (CurPost (IntIn 0 (if n ≤ 1 then 0 else n - 1)) (A + 2) g ca cl cc w) := by
  by_cases h1 : n ≤ 1
  · rw [if_pos h1]
    go_enter Try.func77, Try.ntmps77
    go_wp2_with fail
    go_ret
    exact ⟨_, ⟨0, by omega, by omega, rfl⟩, rfl, h.mono (by omega), Chg.refl _ _⟩
  rw [if_neg h1]
  have hn1 : 1 < n := by omega
  have hn0 : 0 < n := by omega
  by_cases h2 : 200 < n
  · go_enter Try.func77, Try.ntmps77
    go_wp2_with fail
    refine (cur_next A g ca cl cc w h (by omega)).mono ?_
    rintro e w1 ⟨_, ⟨x, hx0, hx1, rfl⟩, rfl, hi1, hc1⟩
    go_wp2_with fail
    refine (cur_next (A + 1) g ca cl cc w1 hi1 (by omega)).mono ?_
    rintro e w2 ⟨_, ⟨y, hy0, hy1, rfl⟩, rfl, hi2, hc2⟩
    have hxy : 0 ≤ x * 256 + y := by omega
    have hm := Int.emod_nonneg (x * 256 + y) (by omega : n ≠ 0)
    have hm2 := Int.emod_lt_of_pos (x * 256 + y) hn0
    have hc := hc1.trans hc2
    replace hm := Lib.hid hm
    replace hm2 := Lib.hid hm2
    go_wp2_with fail
    go_ret
    exact ⟨_, ⟨_, hm.out, by have := hm2.out; omega, rfl⟩, rfl, hi2, hc⟩
  · go_enter Try.func77, Try.ntmps77
    go_wp2_with fail
    refine (cur_next A g ca cl cc w h (by omega)).mono ?_
    rintro e w1 ⟨_, ⟨x, hx0, hx1, rfl⟩, rfl, hi1, hc1⟩
    have hm := Int.emod_nonneg x (by omega : n ≠ 0)
    have hm2 := Int.emod_lt_of_pos x hn0
    replace hm := Lib.hid hm
    replace hm2 := Lib.hid hm2
    go_wp2_with fail
    go_ret
    exact ⟨_, ⟨_, hm.out, by have := hm2.out; omega, rfl⟩, rfl, hi1.mono (by omega), hc1⟩
theorem cur_pick_at {lo hi : Int} {n : Int} {A g : Nat} {ca : Option Addr} {cl cc : Nat} {w : World} (h : CurIs A g ca cl cc w) (hA : A ≤ 100000000) (hn : n ≤ 1000000000) (h1 : lo ≤ 0) (h2 : 0 ≤ hi) (h3 : n - 1 ≤ hi) :
    Calls Try.prog 77 #[.pointer (some ⟨g, 0, none⟩), .int .i64 n] w (CurPost (IntIn lo hi) (A + 2) g ca cl cc w) :=
  (cur_pick n A g ca cl cc w h hA hn).mono fun e w' ⟨v, ⟨x, hx0, hx1, hx⟩, r⟩ => ⟨v, ⟨x, by omega, by split at hx1 <;> omega, hx⟩, r⟩

/-- Some bool. -/
def IsBool (v : Value) : Prop := ∃ q : Bool, v = .bool q
theorem cur_one (n : Int) (A g : Nat) (ca : Option Addr) (cl cc : Nat) (w : World) (h : CurIs A g ca cl cc w) (hA : A ≤ 100000000) (hn : n ≤ 1000000000) :
    Calls Try.prog 76 #[.pointer (some ⟨g, 0, none⟩), .int .i64 n] w (CurPost IsBool (A + 2) g ca cl cc w) := by
  go_enter Try.func76, Try.ntmps76
  go_wp2_with fail
  refine (cur_pick n A g ca cl cc w h hA hn).mono ?_
  rintro e w1 ⟨_, ⟨x, _, _, rfl⟩, rfl, hi1, hc1⟩
  go_wp2_with fail
  go_ret
  exact ⟨_, ⟨_, rfl⟩, rfl, hi1, hc1⟩

/-- A string of which R holds. -/
def StrR (R : ByteArray → Prop) (v : Value) : Prop := ∃ s, R s ∧ v = .string s
/-- A list of strings of which R holds. -/
def StrsR (R : ByteArray → Prop) (w : World) (b off m : Nat) : Prop := ∀ j, j < m → ∃ s, R s ∧ w.cell? ⟨b, off + j, none⟩ = some (.string s)

set_option maxHeartbeats 2000000 in
theorem cur_of (R : ByteArray → Prop) (b off m c : Nat) (A g : Nat) (ca : Option Addr) (cl cc : Nat) (w : World) (h : CurIs A g ca cl cc w) (hA : A ≤ 100000000) (hm0 : 0 < m) (hm : m ≤ 1000000) (hs : StrsR R w b off m) (hb : b ≠ g) :
    Calls Try.prog 178 #[.pointer (some ⟨g, 0, none⟩), .slice (some ⟨b, off, none⟩) m c] w (CurPost (StrR R) (A + 2) g ca cl cc w) := by
  go_enter Try.func178, Try.ntmps178
  go_wp2_with fail
  refine (cur_pick_at (lo := 0) (hi := (m : Int) - 1) h hA (by omega) (by omega) (by omega) (by omega)).mono ?_
  rintro e w1 ⟨_, ⟨x, hx0, hx1, rfl⟩, rfl, hi1, hc1⟩
  obtain ⟨k, rfl⟩ := Int.eq_ofNat_of_zero_le hx0
  have hk : k < m := by omega
  have hk' : (k : Int) < (m : Int) := by omega
  obtain ⟨s, hR, hcell⟩ := hs k hk
  have k0 := hc1.cell hcell (by simpa using hb)
  clear hx1
  go_wp2_with fail
  go_ret
  exact ⟨_, ⟨s, hR, rfl⟩, rfl, hi1, hc1⟩

set_option maxHeartbeats 2000000 in
theorem cur_among (lo hi : Int) (b off m c : Nat) (A g : Nat) (ca : Option Addr) (cl cc : Nat) (w : World) (h : CurIs A g ca cl cc w) (hA : A ≤ 100000000) (hm0 : 0 < m) (hm : m ≤ 1000000) (hs : ∀ j, j < m → ∃ x, lo ≤ x ∧ x ≤ hi ∧ w.cell? ⟨b, off + j, none⟩ = some (.int .i64 x)) (hb : b ≠ g) :
    Calls Try.prog 80 #[.pointer (some ⟨g, 0, none⟩), .slice (some ⟨b, off, none⟩) m c] w (CurPost (IntIn lo hi) (A + 2) g ca cl cc w) := by
  go_enter Try.func80, Try.ntmps80
  go_wp2_with fail
  refine (cur_pick_at (lo := 0) (hi := (m : Int) - 1) h hA (by omega) (by omega) (by omega) (by omega)).mono ?_
  rintro e w1 ⟨_, ⟨x, hx0, hx1, rfl⟩, rfl, hi1, hc1⟩
  obtain ⟨k, rfl⟩ := Int.eq_ofNat_of_zero_le hx0
  have hk : k < m := by omega
  have hk' : (k : Int) < (m : Int) := by omega
  obtain ⟨y, hy0, hy1, hcell⟩ := hs k hk
  have k0 := hc1.cell hcell (by simpa using hb)
  clear hx1
  go_wp2_with fail
  go_ret
  exact ⟨_, ⟨y, hy0, hy1, rfl⟩, rfl, hi1, hc1⟩
end Go.Proofs.Ytbemodacpimiiaa

/- Memory in parts beside a cursor that turns. -/
namespace Go.Proofs.Ytbemodacpimiiaa
open Go.RowKit

theorem ints_new {lo hi : Int} {W : World} {cs : Array Value} {t : TypeId} {b n : Nat} (hb : b = W.heap.size) (h : ∀ j, j < n → ∃ x, cs[j]? = some (.int .i64 x) ∧ lo ≤ x ∧ x ≤ hi) : ∀ j, j < n → ∃ x, lo ≤ x ∧ x ≤ hi ∧ (W.alloc (.cells cs t)).cell? ⟨b, 0 + j, none⟩ = some (.int .i64 x) := fun j hj => by
  obtain ⟨x, h1, h2, h3⟩ := h j hj
  subst hb
  refine ⟨x, h2, h3, ?_⟩
  rw [Nat.zero_add]
  exact (cell_of_row _ _ _ _ _ _ (heap_alloc_new W _)).trans h1
theorem CurPost.chg {R : Value → Prop} {A g : Nat} {ca : Option Addr} {cl cc : Nat} {w w1 : World} {e : Ending} {w' : World} (h : CurPost R A g ca cl cc w1 e w') (hc : Chg [g] w w1) : CurPost R A g ca cl cc w e w' := by
  obtain ⟨v, h1, h2, h3, h4⟩ := h
  exact ⟨v, h1, h2, h3, hc.trans h4⟩
theorem CurIs.stay {A A' g cl cc : Nat} {ca : Option Addr} {w W W' : World} (h : CurIs A g ca cl cc w) (hi : CurIs A' g ca cl cc W) (hk : ∀ k, k < w.heap.size → W'.heap[k]? = W.heap[k]?) : CurIs A' g ca cl cc W' := by
  have hg := h.lt
  have hl := h.code
  obtain ⟨⟨i, s, h1, h2⟩, h3, h4, h5⟩ := hi
  refine ⟨⟨i, s, (hk g hg).trans h1, h2⟩, ?_, h4, h5⟩
  rcases Nat.eq_zero_or_pos cl with rfl | hp
  · exact .zero _ _
  · exact h3.keep fun a ha => hk _ (hl.lt hp a ha)

/-- Parts of the call's own, beside a cursor g that was there. -/
def CS (w0 : World) (g : Nat) (ca : Option Addr) (cl cc A : Nat) (w : World) (ps : List Asn) : Prop :=
  (∃ A0, CurIs A0 g ca cl cc w0) ∧ CurIs A g ca cl cc w ∧ Chg [g] w0 w ∧ ∃ F, sep ps w F ∧ ∀ b ∈ F, w0.heap.size ≤ b
section
variable {w0 w w' w1 : World} {g cl cc A A' i b o n n' size : Nat} {ca : Option Addr} {ps : List Asn} {q : Asn} {t e : TypeId} {cs : Array Value} {v v' : Value} {xs xs' : List Value}
theorem CS.start (h : CurIs A g ca cl cc w) : CS w g ca cl cc A w [] := ⟨⟨A, h⟩, h, Chg.refl _ _, [], rfl, by simp⟩
theorem CS.cur (h : CS w0 g ca cl cc A w ps) : CurIs A g ca cl cc w := h.2.1
theorem CS.chg (h : CS w0 g ca cl cc A w ps) : Chg [g] w0 w := h.2.2.1
theorem CS.glt (h : CS w0 g ca cl cc A w ps) : g < w0.heap.size := by obtain ⟨⟨A0, h0⟩, _⟩ := h; exact h0.lt
theorem CS.mono (h : CS w0 g ca cl cc A w ps) (hA : A ≤ A') : CS w0 g ca cl cc A' w ps := ⟨h.1, h.2.1.mono hA, h.2.2⟩
theorem CS.turn (h : CS w0 g ca cl cc A w ps) (hi : CurIs A' g ca cl cc w') (hc : Chg [g] w w') : CS w0 g ca cl cc A' w' ps := by
  have hg := h.glt
  obtain ⟨h0, h1, h2, F, h3, h4⟩ := h
  exact ⟨h0, hi, h2.trans hc, F, sep_keep h3 fun b hm => hc.block b (sep_lt h3 b hm) fun hb => by
    obtain rfl : b = g := by simpa using hb
    have := h4 b hm; omega, h4⟩
theorem CS.grow (h : CS w0 g ca cl cc A w ps) (hb : Below w.heap.size w w') : CS w0 g ca cl cc A w' ps := by
  obtain ⟨h0, h1, h2, F, h3, h4⟩ := h
  exact ⟨h0, h1.grow hb, h2.then hb, F, sep_keep h3 fun b hm => hb.block b (sep_lt h3 b hm), h4⟩
theorem CS.new {F : List Nat} (h : CS w0 g ca cl cc A w ps) (hb : Below w.heap.size w w') (hq : q.p w' F) (hF : ∀ b ∈ F, w.heap.size ≤ b) : CS w0 g ca cl cc A w' (q :: ps) := by
  have hsz := h.chg.size
  obtain ⟨h0, h1, h2, F', h3, h4⟩ := h
  refine ⟨h0, h1.grow hb, h2.then hb, F ++ F', ⟨F, F', rfl, fun b hm hm2 => ?_, hq, sep_keep h3 fun b hm => hb.block b (sep_lt h3 b hm)⟩, fun b hm => ?_⟩
  · have := hF b hm; have := sep_lt h3 b hm2; omega
  · rcases List.mem_append.1 hm with hm | hm
    · have := hF b hm; omega
    · exact h4 b hm
theorem CS.upd (h : CS w0 g ca cl cc A w ps) (hi : ps[i]? = some q) : ∃ Fi, q.p w Fi ∧ (∀ b ∈ Fi, w0.heap.size ≤ b) ∧
    ∀ w' q' Fi', Chg Fi w w' → q'.p w' Fi' → (∀ b ∈ Fi', b ∈ Fi ∨ w.heap.size ≤ b) → CS w0 g ca cl cc A w' (ps.set i q') := by
  have hsz := h.chg.size
  obtain ⟨h0, h1, h2, F, h3, h4⟩ := h
  obtain ⟨Fi, hp, hsub, hall⟩ := sep_upd h3 hi
  refine ⟨Fi, hp, fun b hb => h4 b (hsub b hb), fun w' q' Fi' hc hq hF => ?_⟩
  obtain ⟨F', hs, hF'⟩ := hall w' q' Fi' hc hq hF
  have hk : ∀ k, k < w0.heap.size → w'.heap[k]? = w.heap[k]? := fun k hk => hc.block k (Nat.lt_of_lt_of_le hk hsz) fun hm => by have := h4 k (hsub k hm); omega
  obtain ⟨A0, h0'⟩ := h0
  exact ⟨⟨A0, h0'⟩, h0'.stay h1 hk, ⟨hc.os.trans h2.os, hc.tape.trans h2.tape, hc.output.trans h2.output, Nat.le_trans h2.size hc.size, fun k hk' hn => (hk k hk').trans (h2.block k hk' hn)⟩, F', hs, fun b hb => (hF' b hb).elim (h4 b) (Nat.le_trans hsz)⟩
theorem CS.get (h : CS w0 g ca cl cc A w ps) (hi : ps[i]? = some q) : ∃ Fi, q.p w Fi ∧ (∀ b ∈ Fi, w0.heap.size ≤ b) := by
  obtain ⟨Fi, h1, h2, _⟩ := h.upd hi
  exact ⟨Fi, h1, h2⟩
theorem CS.tail (h : CS w0 g ca cl cc A w (q :: ps)) : CS w0 g ca cl cc A w ps := by
  obtain ⟨h0, h1, h2, F, ⟨F1, F2, rfl, _, _, h3⟩, h4⟩ := h
  exact ⟨h0, h1, h2, F2, h3, fun b hb => h4 b (List.mem_append.2 (.inr hb))⟩
theorem CS.swap {q' : Asn} (h : CS w0 g ca cl cc A w (q :: q' :: ps)) : CS w0 g ca cl cc A w (q' :: q :: ps) := by
  obtain ⟨h0, h1, h2, F, ⟨F1, F2, rfl, hd, hq, F3, F4, rfl, hd2, hq', h3⟩, h4⟩ := h
  refine ⟨h0, h1, h2, F3 ++ (F1 ++ F4), ⟨F3, F1 ++ F4, rfl, fun b hb hb2 => ?_, hq', F1, F4, rfl, fun b hb hb2 => hd b hb (List.mem_append.2 (.inr hb2)), hq, h3⟩, fun b hb => ?_⟩
  · rcases List.mem_append.1 hb2 with hb2 | hb2
    · exact hd b hb2 (List.mem_append.2 (.inl hb))
    · exact hd2 b hb hb2
  · apply h4
    simp only [List.mem_append] at hb ⊢
    rcases hb with h | h | h
    · exact .inr (.inl h)
    · exact .inl h
    · exact .inr (.inr h)
theorem CS.third {q1 q2 q3 : Asn} (h : CS w0 g ca cl cc A w (q1 :: q2 :: q3 :: ps)) : CS w0 g ca cl cc A w (q1 :: q2 :: ps) := by
  obtain ⟨h0, h1, h2, F, ⟨F1, F2, rfl, hd, hq, F3, F4, rfl, hd2, hq', F5, F6, rfl, hd3, hq3, h3⟩, h4⟩ := h
  refine ⟨h0, h1, h2, F1 ++ (F3 ++ F6), ⟨F1, F3 ++ F6, rfl, fun b hb hb2 => hd b hb ?_, hq, F3, F6, rfl, fun b hb hb2 => hd2 b hb (List.mem_append.2 (.inr hb2)), hq', h3⟩, fun b hb => h4 b ?_⟩
  · rcases List.mem_append.1 hb2 with h | h
    · exact List.mem_append.2 (.inl h)
    · exact List.mem_append.2 (.inr (List.mem_append.2 (.inr h)))
  · simp only [List.mem_append] at hb ⊢
    rcases hb with h | h | h
    · exact .inl h
    · exact .inr (.inl h)
    · exact .inr (.inr (.inr h))
/-- The second part is let go. -/
theorem CS.third2 {q1 q2 : Asn} (h : CS w0 g ca cl cc A w (q1 :: q2 :: ps)) : CS w0 g ca cl cc A w (q1 :: ps) := h.swap.tail
theorem CS.drew (h : CS w0 g ca cl cc A w ps) : CS w0 g ca cl cc A w.drew ps := h.grow (bdr (bb _))
theorem CS.alloc (h : CS w0 g ca cl cc A w ps) (o : Obj) : CS w0 g ca cl cc A (w.alloc o) ps := h.grow (bal (bb _) o)
theorem CS.alloc_box (h : CS w0 g ca cl cc A w ps) (cs : Array Value) (t : TypeId) : CS w0 g ca cl cc A (w.alloc (.cells cs t)) (Box w.heap.size t cs :: ps) :=
  h.new (bal (bb _) _) (F := [w.heap.size]) ⟨rfl, heap_alloc_new w _⟩ (by simp)
theorem CS.box (h : CS w0 g ca cl cc A w ps) (hi : ps[i]? = some (Box b t cs)) : w0.heap.size ≤ b ∧ b < w.heap.size ∧ w.heap[b]? = some (.cells cs t (0, 0)) := by
  obtain ⟨F, hp, hF⟩ := h.get hi
  have hlt := (Box b t cs).lt hp b
  obtain ⟨rfl, hh⟩ := hp
  exact ⟨hF b (by simp), hlt (by simp), hh⟩
theorem CS.cell (h : CS w0 g ca cl cc A w ps) (hi : ps[i]? = some (Box b t cs)) {u : Value} (ho : cs[o]? = some u) : w.cell? ⟨b, o, none⟩ = some u := by
  simp [World.cell?, (h.box hi).2.2, ho]
theorem CS.frozen (h : CS w0 g ca cl cc A w ps) (hi : ps[i]? = some (Box b t cs)) (o : Nat) : w.frozen? ⟨b, o, none⟩ = false := by
  simp [World.frozen?, (h.box hi).2.2]
theorem CS.store (h : CS w0 g ca cl cc A w ps) (hi : ps[i]? = some (Box b t cs)) (o : Nat) (u : Value) : CS w0 g ca cl cc A (w.setCell ⟨b, o, none⟩ u) (ps.set i (Box b t (cs.setIfInBounds o u))) := by
  obtain ⟨Fi, ⟨rfl, hh⟩, hF, hall⟩ := h.upd hi
  exact hall _ (Box b t (cs.setIfInBounds o u)) [b] ((Chg.refl _ _).set (by simp) _) ⟨rfl, by simp [World.setCell, Array.getElem?_modify, hh]⟩ fun b hb => .inl hb
theorem CS.own (h : CS w0 g ca cl cc A w ps) (hi : ps[i]? = some (Own e size v n xs)) : w.ownsRow 0 e size v n xs := by
  obtain ⟨F, hp, _⟩ := h.get hi
  exact hp.2
theorem CS.owns_end (h : CS w0 g ca cl cc A w ps) (hi : ps[i]? = some (Own e size v n xs)) : w.ownsRow w0.heap.size e size v n xs := by
  obtain ⟨F, ⟨rfl, h1⟩, h2⟩ := h.get hi
  exact owns_base h1 fun g hg => h2 g (by simp [hg])
theorem CS.own_new (h : CS w0 g ca cl cc A w ps) (hb : Below w.heap.size w w') (ho : w'.ownsRow 0 e size v n xs) (hv : ∀ g, v.ownBlock = some g → w.heap.size ≤ g) : CS w0 g ca cl cc A w' (Own e size v n xs :: ps) :=
  h.new hb (F := v.ownBlock.toList) ⟨rfl, ho⟩ fun b hm => hv b (by simpa using hm)
theorem CS.own_made (h : CS w0 g ca cl cc A w ps) (e : TypeId) (size : Nat) : CS w0 g ca cl cc A (w.alloc (.cells #[] e)) (Own e size (.slice (some ⟨w.heap.size, 0, none⟩) 0 0) 0 [] :: ps) :=
  h.own_new (bal (bb _) _) ⟨by simp, .inr ⟨w.heap.size, 0, #[], rfl, Nat.zero_le _, heap_alloc_new w _, Nat.le_refl _, by decide, by simp, by simp⟩⟩ (fun g hg => by
    have : w.heap.size = g := by simpa [Value.ownBlock] using hg
    omega)
theorem CS.own_push (h : CS w0 g ca cl cc A w ps) (hi : ps[i]? = some (Own e size v n xs)) (hb : Below w.heap.size w w1) (ho : w'.ownsRow 0 e size v' n' xs') (hg : w1.grownBy w' v.ownBlock)
    (hat : v'.ownBlock = v.ownBlock ∨ v'.ownBlock = some w1.heap.size) : CS w0 g ca cl cc A w' (ps.set i (Own e size v' n' xs')) := by
  obtain ⟨F, ⟨rfl, hh⟩, hF, hall⟩ := h.upd hi
  refine hall w' _ v'.ownBlock.toList ?_ ⟨rfl, ho⟩ fun b hm => ?_
  · exact ⟨hg.os.trans hb.os, hg.tape.trans hb.tape, hg.output.trans hb.output, Nat.le_trans hb.size hg.size, fun k hk hn =>
      (hg.block k (Nat.lt_of_lt_of_le hk hb.size) (fun e => hn (by simp [← e]))).trans (hb.block k hk)⟩
  · rcases hat with h1 | h1
    · exact .inl (by rw [h1] at hm; exact hm)
    · rw [h1] at hm
      obtain rfl : b = w1.heap.size := by simpa using hm
      exact .inr hb.size
/-- A store into an own row. -/
theorem CS.own_put {cap : Nat} {gx : Nat} (h : CS w0 g ca cl cc A w ps) (hi : ps[i]? = some (Own e size (.slice (some ⟨gx, 0, none⟩) n cap) n xs)) (u : Value) (ho : o < n * size) :
    CS w0 g ca cl cc A (w.setCell ⟨gx, o, none⟩ u) (ps.set i (Own e size (.slice (some ⟨gx, 0, none⟩) n cap) n (xs.set o u))) := by
  obtain ⟨F, ⟨rfl, hh⟩, hF, hall⟩ := h.upd hi
  have hlen := hh.1
  obtain ⟨g', cap', cur, e1, h0, hg, hn, hm, hc, ht⟩ := own_block hh (by
    rcases Nat.eq_zero_or_pos n with rfl | h
    · simp at ho
    · exact h)
  simp only [Value.slice.injEq, Option.some.injEq, Addr.mk.injEq] at e1
  obtain ⟨⟨rfl, _⟩, _, rfl⟩ := e1
  have hset : (w.setCell ⟨gx, o, none⟩ u).heap[gx]? = some (.cells (cur.setIfInBounds o u) e (0, 0)) := by
    simp [World.setCell, Array.getElem?_modify]
    exact ⟨_, hg, rfl⟩
  refine hall _ _ [gx] ?_ ⟨rfl, by rw [List.length_set]; exact hlen, .inr ⟨gx, cap, cur.setIfInBounds o u, rfl, Nat.zero_le _, hset, hn, hm, by rw [Array.size_setIfInBounds]; exact hc, ?_⟩⟩ fun b hb => .inl hb
  · exact ⟨rfl, rfl, rfl, by simp [World.setCell], fun k _ hn => Below.heap_setCell _ _ _ _ (by simpa [Value.ownBlock] using hn)⟩
  · rw [Array.toList_setIfInBounds, List.take_set, ht]
/-- Parts of a call's own go in front. -/
theorem CS.seq {qs : List Asn} (h : CS w0 g ca cl cc A w ps) (k : Sp w w' qs) : CS w0 g ca cl cc A w' (qs ++ ps) := by
  have hsz := h.chg.size
  obtain ⟨h0, h1, h2, G, h3, h4⟩ := h
  obtain ⟨k1, F, k2, k3⟩ := k
  refine ⟨h0, h1.grow k1, h2.then k1, F ++ G, sep_append k2 (sep_keep h3 fun b hm => k1.block b (sep_lt h3 b hm)) (fun b hb hb2 => ?_), fun b hb => ?_⟩
  · have := k3 b hb; have := sep_lt h3 b hb2; omega
  · rcases List.mem_append.1 hb with hm | hm
    · have := k3 b hm; omega
    · exact h4 b hm
end
end Go.Proofs.Ytbemodacpimiiaa

/- Contracts: clauses in the reference: copying, comparing, finding the place. -/
namespace Go.Proofs.Ytbemodacpimiiaa
open Go.RowKit

/-- An own row of numbers. -/
def OwnsPost (w : World) (xs : List Int) (e : Ending) (w' : World) : Prop := ∃ v, e = .returned v ∧ w'.ownsRow w.heap.size 3 1 v xs.length (xs.map (.int .i64)) ∧ Below w.heap.size w w'
theorem ints_one (xs : List Int) : ∀ u ∈ xs.map (Value.int .i64), u.oneCell' = true := by
  intro u hu
  obtain ⟨x, _, rfl⟩ := List.mem_map.1 hu
  rfl

set_option maxHeartbeats 1000000 in
theorem l1Own_any (v : Value) (xs : List Int) (F : List Nat) (w : World) (h : Ty.int.row false w v xs F) (hl : xs.length ≤ 10000000000) :
    Calls Try.prog 121 #[v] w (OwnsPost w xs) := by
  obtain ⟨i0, hi, hz0, hz1, hz2⟩ := info_parts infoInt
  have S0 := (Sp.start w).own_made 3 1
  have hB0 := S0.below
  obtain ⟨A, c, rfl, hsrc⟩ := row_src_int (Ty.row_grow h hB0)
  replace S0 := Lib.hid S0
  go_enter Try.func121, Try.ntmps121
  go_wp2_with (at_builtin; refine wpList_append_src rfl _ _ rfl Try.underlying35 hi hz0 hz1 hz2 rfl (by decide) _ _ _ rfl (S0.out.own (i := 0) rfl) A xs.length c _ rfl hsrc (ints_one xs) ?c3 ?c4 ?_)
  case c3 => unfold maxLen; omega
  case c4 => omega
  intro v' w1 hown hg hat
  have S1 := S0.out.own_push (i := 0) rfl (bb _) hown hg (by simpa using hat)
  have ho := S1.owns_end (i := 0) rfl
  have hB := S1.below
  obtain ⟨a, c', rfl⟩ := owns_form ho
  replace ho := Lib.hid ho
  clear hown hg hat S1 S0
  go_wp2_with fail
  go_ret
  exact ⟨_, rfl, ho.out, hB⟩

/- left out: the seat has no spec.l1Same -/

/- left out: the seat has no spec.l2Key -/

/- left out: the seat has no spec.l2Before -/
end Go.Proofs.Ytbemodacpimiiaa
