/- Contracts: which names go, in the program. -/
import Derived.Test.YtcapiijpfoapkaaBookL
namespace Go.Proofs.Ytcapiijpfoapkaa
open Go.RowKit

/-- The variables that the closure has captured. -/
structure Caps (w : World) (b1 b2 b3 : Nat) (v : Value) (xs : List Rec) (one two : Int) : Prop where
  book : w.cell? ⟨b1, 0, none⟩ = some v
  one_ : w.cell? ⟨b2, 0, none⟩ = some (.int .i64 one)
  two_ : w.cell? ⟨b3, 0, none⟩ = some (.int .i64 two)
  row : ∃ F, rcTy.row false w v xs F
  ok : bookB xs = true
theorem Caps.grow {w w' : World} {b1 b2 b3 : Nat} {v : Value} {xs : List Rec} {one two : Int} (h : Caps w b1 b2 b3 v xs one two) (hb : Below w.heap.size w w') : Caps w' b1 b2 b3 v xs one two :=
  ⟨((bcell hb).1 b1 0 (World.block_lt_of_cell? _ _ h.book)).trans h.book, ((bcell hb).1 b2 0 (World.block_lt_of_cell? _ _ h.one_)).trans h.one_, ((bcell hb).1 b3 0 (World.block_lt_of_cell? _ _ h.two_)).trans h.two_, h.row.imp fun _ hr => Ty.row_grow hr hb, h.ok⟩
theorem goes_eq (xs : List Rec) (one two : Int) (n : List UInt8) : goesB xs one two n = (!(recOf xs n one).isSome || !(recOf xs n two).isSome || decide ((gotR xs n two).size ≤ (gotR xs n one).size)) := by
  unfold goesB gotR
  cases recOf xs n one <;> cases recOf xs n two <;> simp

set_option maxRecDepth 100000 in
set_option maxHeartbeats 4000000 in
theorem goes_any (n : List UInt8) (b1 b2 b3 : Nat) (v : Value) (xs : List Rec) (one two : Int) (w : World) (hc : Caps w b1 b2 b3 v xs one two) :
    Calls Try.prog 20 #[.string (ms n), .pointer (some ⟨b1, 0, none⟩), .pointer (some ⟨b2, 0, none⟩), .pointer (some ⟨b3, 0, none⟩)] w fun e w' => e = .returned (.bool (goesB xs one two n)) ∧ Below w.heap.size w w' := by
  have k1 := hc.book
  have k2 := hc.one_
  obtain ⟨F, hr⟩ := hc.row
  obtain ⟨a, c, rfl, _, _, _, _⟩ := row_rc hr
  have hgo := Lib.hid (goes_eq xs one two n)
  have h1 := Lib.hid (fun w' (hb : Below w.heap.size w w') => recordOf_any _ xs n one F w' (Ty.row_grow hr hb) hc.ok)
  have h2 := Lib.hid (fun w' (hb : Below w.heap.size w w') => recordOf_any _ xs n two F w' (Ty.row_grow hr hb) hc.ok)
  have hc2 := Lib.hid hc
  generalize hg1 : gotR xs n one = r at *
  generalize hg2 : gotR xs n two = q at *
  generalize (recOf xs n one).isSome = s1 at *
  generalize (recOf xs n two).isSome = s2 at *
  clear hg1 hg2 hr hc
  go_enter Try.func20, Try.ntmps20
  go_wp2_with fail
  refine (h1.out _ (bb _)).mono ?_
  rintro e w1 ⟨rfl, hb1⟩
  have S1 := (Sp.of_below hb1).alloc_box #[.string (ms r.name), .int .i64 r.sys, .int .i64 r.size, .int .i64 r.extra] 39
  have hc3 := hc2.out.grow S1.below
  have j1 := hc3.book
  have j3 := hc3.two_
  replace S1 := Lib.hid S1
  clear hc3 h1
  go_wp2_with fail
  refine (h2.out _ S1.out.below).mono ?_
  rintro e w2 ⟨rfl, hb2⟩
  have S2 := (S1.out.grow hb2).alloc_box #[.string (ms q.name), .int .i64 q.sys, .int .i64 q.size, .int .i64 q.extra] 39
  have z1 := S2.cell (i := 1) rfl (o := 2) rfl
  have z2 := S2.cell (i := 0) rfl (o := 2) rfl
  have hB := S2.below
  clear S1 S2 hb1 hb2 j1 j3 h2 hc2 k1 k2
  cases s1
  · go_wp2_with fail
    go_ret
    exact ⟨ret_bool (by rw [hgo.out]; rfl), hB⟩
  cases s2
  · go_wp2_with fail
    go_ret
    exact ⟨ret_bool (by rw [hgo.out]; rfl), hB⟩
  · go_wp2_with fail
    go_ret
    exact ⟨ret_bool (by rw [hgo.out]; rfl), hB⟩

/-- The first name that goes, or -1. -/
def FirstP (ns : List (List UInt8)) (p : List UInt8 → Bool) (z : Int) : Prop := (z = -1 ∧ ∀ x ∈ ns, p x = false) ∨ ∃ k, ∃ h : k < ns.length, z = (k : Int) ∧ p ns[k] = true ∧ ∀ x ∈ ns.take k, p x = false

set_option maxHeartbeats 2000000 in
theorem indexStr_any (a : Option Addr) (cap : Nat) (ns : List (List UInt8)) (b1 b2 b3 : Nat) (v : Value) (xs : List Rec) (one two : Int) (w : World) (hc : Caps w b1 b2 b3 v xs one two)
    (hcell : ∀ j (hj : j < ns.length), ∃ b off, a = some ⟨b, off, none⟩ ∧ w.cell? ⟨b, off + j, none⟩ = some (stV ns[j])) (hn : ns.length ≤ 1000000) :
    Calls Try.prog 30 #[.slice a ns.length cap, .func (.func 20) #[] #[.pointer (some ⟨b1, 0, none⟩), .pointer (some ⟨b2, 0, none⟩), .pointer (some ⟨b3, 0, none⟩)]] w fun e w' => ∃ z, e = .returned (.int .i64 z) ∧ FirstP ns (goesB xs one two) z ∧ Below w.heap.size w w' := by
  have eg : ∀ args w, (callFunc 20 args).run Try.prog w = .ok (.enter 20 args) w := enters_of Try.func20 (by kernel_rfl) rfl
  replace hc := Lib.hid hc
  replace hcell := Lib.hid hcell
  go_enter Try.func30, Try.ntmps30
  go_wp2_with fail
  go_loopw [8] (fun i wr => ∃ k : Nat, k ≤ ns.length ∧ i = .int .i64 k ∧ Hid (∀ x ∈ ns.take k, goesB xs one two x = false) ∧ Hid (Below w.heap.size w wr)) (fun i _ => ns.length - (intOf i).toNat)
  case atStart => exact ⟨0, Nat.zero_le _, rfl, by simp [Hid], bb _⟩
  case round =>
    obtain ⟨k, hk, rfl, HD, HB⟩ := hrel
    by_cases hlt : k < ns.length
    · obtain ⟨b, off, rfl, kc⟩ := hcell.out k hlt
      have k0 := ((bcell HB.out).1 b (off + k) (World.block_lt_of_cell? _ _ kc)).trans kc
      have hcall := Lib.hid (goes_any ns[k] b1 b2 b3 v xs one two wr (hc.out.grow HB.out))
      clear kc hcell
      cases hq : goesB xs one two ns[k]
      · have HD2 : Hid (∀ x ∈ ns.take (k + 1), goesB xs one two x = false) := fun x hx => by
          rw [List.take_succ_eq_append_getElem hlt, List.mem_append, List.mem_singleton] at hx
          rcases hx with hx | rfl
          · exact HD.out x hx
          · exact hq
        rw [hq] at hcall
        clear HD hq
        go_wp2_with fail
        refine hcall.out.mono ?_
        rintro e w1 ⟨rfl, hb1⟩
        have HB2 := Lib.hid (btr HB.out hb1)
        go_wp2_with fail
        go_roundw
        case rel => exact ⟨k + 1, by omega, by go_num, HD2, HB2⟩
        case measure => simp [intOf]; omega
      · have hR : Hid (FirstP ns (goesB xs one two) k) := .inr ⟨k, hlt, rfl, hq, HD.out⟩
        rw [hq] at hcall
        clear HD hq
        go_wp2_with fail
        refine hcall.out.mono ?_
        rintro e w1 ⟨rfl, hb1⟩
        have hB := btr HB.out hb1
        go_wp2_with fail
        go_ret
        exact ⟨_, rfl, hR.out, hB⟩
    · obtain rfl : k = ns.length := by omega
      have hR : Hid (FirstP ns (goesB xs one two) (-1)) := .inl ⟨rfl, by have := HD.out; rwa [List.take_length] at this⟩
      clear HD
      go_wp2_with fail
      go_ret
      exact ⟨_, rfl, hR.out, HB.out⟩
end Go.Proofs.Ytcapiijpfoapkaa
