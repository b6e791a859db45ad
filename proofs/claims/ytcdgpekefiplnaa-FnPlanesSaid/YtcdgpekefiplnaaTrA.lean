/- Contracts: whether a list holds an element for which a function answers yes; truth of clauses at bits. -/
import Derived.Test.YtcdgpekefiplnaaPnB
import Derived.Test.YtcdgpekefiplnaaCnfA
import Derived.Test.YtcdgpekefiplnaaClA
import Derived.Shelf.Abstract
import Derived.Lib.RabinKarpLaws
import Derived.Lib.QuietBelow
import Derived.WalkKit
namespace Go.Proofs.Ytcdgpekefiplnaa
open Go.RowKit

/-- Clauses that can be read. -/
structure ClsAt (w : World) (A : Option Addr) (xss : List (List Int)) : Prop where
  at_ : ∀ j (hj : j < xss.length), ∃ b off B c, A = some ⟨b, off, none⟩ ∧ w.cell? ⟨b, off + j, none⟩ = some (.slice B xss[j].length c) ∧ IntsAt w B xss[j]
theorem ClsAt.grow {w w' : World} {A : Option Addr} {xss : List (List Int)} (h : ClsAt w A xss) (hb : Below w.heap.size w w') : ClsAt w' A xss := by
  refine ⟨fun j hj => ?_⟩
  obtain ⟨b, off, B, c, e, h1, h2⟩ := h.at_ j hj
  exact ⟨b, off, B, c, e, (hb.cell (World.block_lt_of_cell? _ _ h1)).trans h1, h2.grow hb⟩
/-- A function of a clause, told by what it answers. -/
def FnS (R : List Int → Prop) (w0 : World) (g : FuncId) (cb : Array Value) (p : List Int → Bool) : Prop :=
  ∀ (xs : List Int) (A : Option Addr) (c : Nat) w, IntsAt w A xs → R xs → Below w0.heap.size w0 w → Calls Try.prog g (#[.slice A xs.length c] ++ cb) w fun e w' => e = .returned (.bool (p xs)) ∧ Below w.heap.size w w'
def idxP {α : Type} (p : α → Bool) (xs : List α) : Int := if xs.any p then (xs.findIdx p : Nat) else -1
theorem idxP_ge {α : Type} (p : α → Bool) (xs : List α) : decide (0 ≤ idxP p xs) = xs.any p := by
  unfold idxP
  cases h : xs.any p
  · rfl
  · simp
theorem idxP_here {α : Type} {p : α → Bool} {xs : List α} {k : Nat} (hk : k < xs.length) (h : (xs.take k).any p = false) (e : p xs[k] = true) : idxP p xs = k := by
  unfold idxP
  rw [if_pos (List.any_eq_true.2 ⟨xs[k], List.getElem_mem hk, e⟩)]
  have : xs.findIdx p = k := by
    rw [List.findIdx_eq hk]
    refine ⟨e, fun j hj => ?_⟩
    have h2 := List.any_eq_false.1 h xs[j] (by rw [List.mem_take_iff_getElem]; exact ⟨j, by omega, rfl⟩)
    simpa using h2
  rw [this]
theorem any_next {α : Type} {p : α → Bool} {xs : List α} {k : Nat} (hk : k < xs.length) (h : (xs.take k).any p = false) (e : p xs[k] = false) : (xs.take (k + 1)).any p = false := by
  rw [List.take_succ_eq_append_getElem hk, List.any_append, h]
  simp [e]
theorem idxP_none {α : Type} {p : α → Bool} {xs : List α} (h : (xs.take xs.length).any p = false) : idxP p xs = -1 := by
  unfold idxP
  rw [List.take_length] at h
  rw [h]; rfl

set_option maxRecDepth 100000 in
set_option maxHeartbeats 2000000 in
theorem indexFuncI_any {g : FuncId} {cb : Array Value} {p : Int → Bool} {R : Int → Prop} (eg : Enter1 g) (xs : List (Int)) (A : Option Addr) (c : Nat) (w : World) (hx : IntsAt w A xs) (hl : xs.length ≤ 1000000) (hR : ∀ x ∈ xs, R x) (hf : FnI R w g cb p) :
    Calls Try.prog 69 #[.slice A xs.length c, .func (.func g) #[] cb] w fun e w' => e = .returned (.int .i64 (idxP p xs)) ∧ Below w.heap.size w w' := by
  unfold Enter1 at eg
  have hN := Lib.hid hx
  replace hf := Lib.hid hf
  have hRR := Lib.hid hR
  have HB0 := Lib.hid (bb w)
  clear hx hR
  go_enter Try.func69, Try.ntmps69
  go_wp2_with fail
  go_loopw [5, 8] (fun _ i wr => ∃ k : Nat, k ≤ xs.length ∧ i = .int .i64 k ∧ Hid ((xs.take k).any p = false) ∧ Hid (Below w.heap.size w wr)) (fun _ i _ => xs.length - (intOf i).toNat)
  case atStart => exact ⟨0, Nat.zero_le _, rfl, rfl, HB0⟩
  case round =>
    obtain ⟨k, hk, rfl, HD, HB⟩ := hrel
    clear HB0
    by_cases hlt : k < xs.length
    · obtain ⟨b, off, rfl, m0⟩ := (hN.out.grow HB.out).at_ k hlt
      have hcall := Lib.hid (hf.out xs[k] wr (hRR.out _ (List.getElem_mem hlt)) HB.out)
      have hyes := Lib.hid (idxP_here hlt HD.out)
      have hno := Lib.hid (any_next hlt HD.out)
      generalize hq : p xs[k] = q at *
      clear hq
      cases q
      · have hD := Lib.hid (hno.out rfl)
        clear hyes hno HD
        go_wp2_with fail
        refine hcall.out.mono ?_
        rintro e w1 ⟨rfl, hb1⟩
        have HB2 := Lib.hid (btr HB.out hb1)
        clear hcall hb1 HB m0
        go_wp2_with fail
        go_roundw
        case rel => exact ⟨k + 1, by omega, by go_num, hD, HB2⟩
        case measure => simp [intOf]; omega
      · have hRes := Lib.hid (hyes.out rfl)
        clear hyes hno HD
        go_wp2_with fail
        refine hcall.out.mono ?_
        rintro e w1 ⟨rfl, hb1⟩
        have HB2 := Lib.hid (btr HB.out hb1)
        clear hcall hb1 HB m0
        go_wp2_with fail
        go_ret
        exact ⟨ret_int hRes.out.symm, HB2.out⟩
    · obtain rfl : k = xs.length := by omega
      have hRes := Lib.hid (idxP_none HD.out)
      go_wp2_with fail
      go_ret
      exact ⟨ret_int hRes.out.symm, HB.out⟩

theorem containsI_any {g : FuncId} {cb : Array Value} {p : Int → Bool} {R : Int → Prop} (eg : Enter1 g) (xs : List (Int)) (A : Option Addr) (c : Nat) (w : World) (hx : IntsAt w A xs) (hl : xs.length ≤ 1000000) (hR : ∀ x ∈ xs, R x) (hf : FnI R w g cb p) :
    Calls Try.prog 50 #[.slice A xs.length c, .func (.func g) #[] cb] w fun e w' => e = .returned (.bool (xs.any p)) ∧ Below w.heap.size w w' := by
  have hcall := Lib.hid (indexFuncI_any eg xs A c w hx hl hR hf)
  have hge := Lib.hid (idxP_ge p xs)
  generalize idxP p xs = i at *
  clear hx hf hR
  go_enter Try.func50, Try.ntmps50
  go_wp2_with fail
  refine hcall.out.mono ?_
  rintro e w1 ⟨rfl, hb1⟩
  clear hcall
  go_wp2_with fail
  go_ret
  exact ⟨ret_bool hge.out, hb1⟩

set_option maxRecDepth 100000 in
set_option maxHeartbeats 2000000 in
theorem indexFuncS_any {g : FuncId} {cb : Array Value} {p : List Int → Bool} {R : List Int → Prop} (eg : Enter1 g) (xs : List (List Int)) (A : Option Addr) (c : Nat) (w : World) (hx : ClsAt w A xs) (hl : xs.length ≤ 1000000) (hR : ∀ x ∈ xs, R x) (hf : FnS R w g cb p) :
    Calls Try.prog 76 #[.slice A xs.length c, .func (.func g) #[] cb] w fun e w' => e = .returned (.int .i64 (idxP p xs)) ∧ Below w.heap.size w w' := by
  unfold Enter1 at eg
  have hN := Lib.hid hx
  replace hf := Lib.hid hf
  have hRR := Lib.hid hR
  have HB0 := Lib.hid (bb w)
  clear hx hR
  go_enter Try.func76, Try.ntmps76
  go_wp2_with fail
  go_loopw [5, 8] (fun _ i wr => ∃ k : Nat, k ≤ xs.length ∧ i = .int .i64 k ∧ Hid ((xs.take k).any p = false) ∧ Hid (Below w.heap.size w wr)) (fun _ i _ => xs.length - (intOf i).toNat)
  case atStart => exact ⟨0, Nat.zero_le _, rfl, rfl, HB0⟩
  case round =>
    obtain ⟨k, hk, rfl, HD, HB⟩ := hrel
    clear HB0
    by_cases hlt : k < xs.length
    · obtain ⟨b, off, Bk, ck, rfl, m0, hI⟩ := (hN.out.grow HB.out).at_ k hlt
      have hcall := Lib.hid (hf.out xs[k] Bk ck wr hI (hRR.out _ (List.getElem_mem hlt)) HB.out)
      clear hI
      have hyes := Lib.hid (idxP_here hlt HD.out)
      have hno := Lib.hid (any_next hlt HD.out)
      generalize hq : p xs[k] = q at *
      clear hq
      cases q
      · have hD := Lib.hid (hno.out rfl)
        clear hyes hno HD
        go_wp2_with fail
        refine hcall.out.mono ?_
        rintro e w1 ⟨rfl, hb1⟩
        have HB2 := Lib.hid (btr HB.out hb1)
        clear hcall hb1 HB m0
        go_wp2_with fail
        go_roundw
        case rel => exact ⟨k + 1, by omega, by go_num, hD, HB2⟩
        case measure => simp [intOf]; omega
      · have hRes := Lib.hid (hyes.out rfl)
        clear hyes hno HD
        go_wp2_with fail
        refine hcall.out.mono ?_
        rintro e w1 ⟨rfl, hb1⟩
        have HB2 := Lib.hid (btr HB.out hb1)
        clear hcall hb1 HB m0
        go_wp2_with fail
        go_ret
        exact ⟨ret_int hRes.out.symm, HB2.out⟩
    · obtain rfl : k = xs.length := by omega
      have hRes := Lib.hid (idxP_none HD.out)
      go_wp2_with fail
      go_ret
      exact ⟨ret_int hRes.out.symm, HB.out⟩

theorem containsS_any {g : FuncId} {cb : Array Value} {p : List Int → Bool} {R : List Int → Prop} (eg : Enter1 g) (xs : List (List Int)) (A : Option Addr) (c : Nat) (w : World) (hx : ClsAt w A xs) (hl : xs.length ≤ 1000000) (hR : ∀ x ∈ xs, R x) (hf : FnS R w g cb p) :
    Calls Try.prog 72 #[.slice A xs.length c, .func (.func g) #[] cb] w fun e w' => e = .returned (.bool (xs.any p)) ∧ Below w.heap.size w w' := by
  have hcall := Lib.hid (indexFuncS_any eg xs A c w hx hl hR hf)
  have hge := Lib.hid (idxP_ge p xs)
  generalize idxP p xs = i at *
  clear hx hf hR
  go_enter Try.func72, Try.ntmps72
  go_wp2_with fail
  refine hcall.out.mono ?_
  rintro e w1 ⟨rfl, hb1⟩
  clear hcall
  go_wp2_with fail
  go_ret
  exact ⟨ret_bool hge.out, hb1⟩
end Go.Proofs.Ytcdgpekefiplnaa
