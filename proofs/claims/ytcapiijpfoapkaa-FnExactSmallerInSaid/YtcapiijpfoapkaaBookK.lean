/- Contracts: a record looked for, in the program. -/
import Derived.Test.YtcapiijpfoapkaaBookJ
namespace Go.Proofs.Ytcapiijpfoapkaa
open Go.RowKit

set_option maxHeartbeats 1000000 in
theorem recCl_any (r : Rec) (n : List UInt8) (s : Int) (bn bs : Nat) (w : World) (kn : w.cell? ⟨bn, 0, none⟩ = some (.string (ms n))) (ks : w.cell? ⟨bs, 0, none⟩ = some (.int .i64 s)) :
    Calls Try.prog 32 #[rcV r, .pointer (some ⟨bn, 0, none⟩), .pointer (some ⟨bs, 0, none⟩)] w fun e w' => e = .returned (.bool (isRec n s r)) ∧ Below w.heap.size w w' := by
  have hB := bal (bb w) (.cells #[.string (ms r.name), .int .i64 r.sys, .int .i64 r.size, .int .i64 r.extra] 39)
  have k0 := cell_alloc kn (.cells #[.string (ms r.name), .int .i64 r.sys, .int .i64 r.size, .int .i64 r.extra] 39)
  have k1 := cell_alloc ks (.cells #[.string (ms r.name), .int .i64 r.sys, .int .i64 r.size, .int .i64 r.extra] 39)
  cases h2 : (r.name == n)
  · have hR : Hid (isRec n s r = false) := by unfold Hid isRec; rw [h2]; rfl
    go_enter Try.func32, Try.ntmps32
    go_wp2_with fail
    go_ret
    exact ⟨ret_bool hR.out.symm, hB⟩
  · have hR : Hid (isRec n s r = decide (r.sys = s)) := by unfold Hid isRec; rw [h2]; rfl
    go_enter Try.func32, Try.ntmps32
    go_wp2_with fail
    go_ret
    exact ⟨ret_bool (by rw [hR.out]; rfl), hB⟩

/-- Where the record stands, or -1. -/
def FindR (xs : List Rec) (n : List UInt8) (s : Int) (z : Int) : Prop := (z = -1 ∧ recOf xs n s = none) ∨ ∃ k, ∃ h : k < xs.length, z = (k : Int) ∧ recOf xs n s = some xs[k]
theorem find_none {xs : List Rec} {p : Rec → Bool} {k : Nat} (h : (xs.take k).find? p = none) (hk : k < xs.length) (hp : p xs[k] = false) : (xs.take (k + 1)).find? p = none := by
  rw [List.take_succ_eq_append_getElem hk, List.find?_append, h]
  simp [hp]
theorem find_here {xs : List Rec} {p : Rec → Bool} {k : Nat} (h : (xs.take k).find? p = none) (hk : k < xs.length) (hp : p xs[k] = true) : xs.find? p = some xs[k] := by
  conv => lhs; rw [← List.take_append_drop k xs]
  rw [List.find?_append, h, List.drop_eq_getElem_cons hk, List.find?_cons, hp]
  rfl

set_option maxHeartbeats 2000000 in
theorem indexRec_any (v : Value) (xs : List Rec) (n : List UInt8) (s : Int) (bn bs : Nat) (F : List Nat) (w : World) (hx : rcTy.row false w v xs F) (kn : w.cell? ⟨bn, 0, none⟩ = some (.string (ms n))) (ks : w.cell? ⟨bs, 0, none⟩ = some (.int .i64 s)) :
    Calls Try.prog 31 #[v, .func (.func 32) #[] #[.pointer (some ⟨bn, 0, none⟩), .pointer (some ⟨bs, 0, none⟩)]] w fun e w' => ∃ z, e = .returned (.int .i64 z) ∧ FindR xs n s z ∧ Below w.heap.size w w' := by
  have eg : ∀ args w, (callFunc 32 args).run Try.prog w = .ok (.enter 32 args) w := enters_of Try.func32 (by kernel_rfl) rfl
  obtain ⟨a, c, rfl, hx1, hx2, hg, hx3⟩ := row_rc hx
  have hbn := World.block_lt_of_cell? _ _ kn
  have hbs := World.block_lt_of_cell? _ _ ks
  clear hx hg
  go_enter Try.func31, Try.ntmps31
  go_wp2_with fail
  go_loopw [8] (fun i wr => ∃ k : Nat, k ≤ xs.length ∧ i = .int .i64 k ∧ Hid ((xs.take k).find? (isRec n s) = none) ∧ Hid (Below w.heap.size w wr)) (fun i _ => xs.length - (intOf i).toNat)
  case atStart => exact ⟨0, Nat.zero_le _, rfl, rfl, bb _⟩
  case round =>
    obtain ⟨k, hk, rfl, HD, HB⟩ := hrel
    by_cases hlt : k < xs.length
    · rcases hx3 with ⟨rfl, rfl⟩ | ⟨hxn, b, off, rfl, rfl, hxc⟩
      · exact absurd hlt (by simp)
      obtain ⟨p0, p1, p2, p3⟩ := hxc k hlt
      have hp := HB.out.block b p0.lt
      have k0 := (p0.keep hp).1
      have k1 := (p1.keep hp).1
      have k2 := (p2.keep hp).1
      have k3 := (p3.keep hp).1
      have jn := ((bcell HB.out).1 bn 0 hbn).trans kn
      have js := ((bcell HB.out).1 bs 0 hbs).trans ks
      have hcall := Lib.hid (recCl_any xs[k] n s bn bs wr jn js)
      clear p0 p1 p2 p3 hp hxc jn js
      cases hq : isRec n s xs[k]
      · have HD2 := Lib.hid (find_none HD.out hlt hq)
        rw [hq] at hcall
        clear HD hq
        go_wp2_with fail
        refine hcall.out.mono ?_
        rintro e w1 ⟨rfl, hb1⟩
        have HB2 := Lib.hid (btr HB.out hb1)
        go_wp2_with fail
        go_roundw
        case rel => exact ⟨k + 1, by omega, by go_num, HD2, HB2⟩
        case measure => simp [intOf]; omega
      · have hR : Hid (FindR xs n s k) := .inr ⟨k, hlt, rfl, find_here HD.out hlt hq⟩
        rw [hq] at hcall
        clear HD hq
        go_wp2_with fail
        refine hcall.out.mono ?_
        rintro e w1 ⟨rfl, hb1⟩
        have hB := btr HB.out hb1
        go_wp2_with fail
        go_ret
        exact ⟨_, rfl, hR.out, hB⟩
    · obtain rfl : k = xs.length := by omega
      have hR : Hid (FindR xs n s (-1)) := .inl ⟨rfl, by have := HD.out; rwa [List.take_length] at this⟩
      clear HD
      go_wp2_with fail
      go_ret
      exact ⟨_, rfl, hR.out, HB.out⟩
end Go.Proofs.Ytcapiijpfoapkaa
