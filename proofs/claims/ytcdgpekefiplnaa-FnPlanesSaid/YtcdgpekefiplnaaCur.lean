/- Contracts: the cursor that draws from bytes. -/
import Derived.Test.YtcdgpekefiplnaaSepA
import Derived.Test.YtcdgpekefiplnaaHTail
import Derived.Test.YtcdgpekefiplnaaPlA
import Derived.Test.YtcdgpekefiplnaaProg
import Derived.WalkLawsBesides
import Derived.WalkSpells
import Derived.Lib.Hide
namespace Go.Proofs.Ytcdgpekefiplnaa
open Go.RowKit

/-- The bytes that a slice holds can be read. -/
def CodeOk (w : World) (ca : Option Addr) (cl : Nat) : Prop := ∀ j, j < cl → ∃ cb off x, ca = some ⟨cb, off, none⟩ ∧ w.cell? ⟨cb, off + j, none⟩ = some (.int .u8 x) ∧ 0 ≤ x ∧ x ≤ 255
/-- The cursor's block. -/
structure CurIs (A : Nat) (g : Nat) (ca : Option Addr) (cl cc : Nat) (w : World) : Prop where
  ok : ∃ (i : Nat) (s : Int), w.heap[g]? = some (.cells #[.slice ca cl cc, .int .i64 i, .int .u64 s] 54 (0, 0)) ∧ i ≤ A ∧ 0 ≤ s ∧ s < 18446744073709551616
  code : CodeOk w ca cl
  far : 0 < cl → ∀ a, ca = some a → a.block ≠ g
  small : cl ≤ 65536
theorem CodeOk.keep {w w' : World} {ca : Option Addr} {cl : Nat} (h : CodeOk w ca cl) (hk : ∀ a, ca = some a → w'.heap[a.block]? = w.heap[a.block]?) : CodeOk w' ca cl := fun j hj => by
  obtain ⟨cb, off, x, rfl, h1, h2⟩ := h j hj
  exact ⟨cb, off, x, rfl, (World.cell?_of_block (a := ⟨cb, off + j, none⟩) (hk ⟨cb, off, none⟩ rfl)).trans h1, h2⟩
theorem CodeOk.lt {w : World} {ca : Option Addr} {cl : Nat} (h : CodeOk w ca cl) (hl : 0 < cl) : ∀ a, ca = some a → a.block < w.heap.size := by
  obtain ⟨cb, off, x, rfl, h1, _⟩ := h 0 hl
  rintro a e
  cases e
  exact World.block_lt_of_cell? _ _ h1
theorem CodeOk.zero (w : World) (ca : Option Addr) : CodeOk w ca 0 := fun j hj => absurd hj (by omega)
theorem CodeOk.grow {w w' : World} {ca : Option Addr} {cl : Nat} (h : CodeOk w ca cl) (hb : Below w.heap.size w w') : CodeOk w' ca cl := by
  rcases Nat.eq_zero_or_pos cl with rfl | hl
  · exact .zero _ _
  · exact h.keep fun a ha => hb.block _ (h.lt hl a ha)
theorem CurIs.lt {A g : Nat} {ca : Option Addr} {cl cc : Nat} {w : World} (h : CurIs A g ca cl cc w) : g < w.heap.size := by
  obtain ⟨i, s, h, _⟩ := h.ok
  rcases Nat.lt_or_ge g w.heap.size with h' | h'
  · exact h'
  · rw [Array.getElem?_eq_none h'] at h; cases h
theorem CurIs.mono {A A' g : Nat} {ca : Option Addr} {cl cc : Nat} {w : World} (h : CurIs A g ca cl cc w) (hA : A ≤ A') : CurIs A' g ca cl cc w := by
  obtain ⟨⟨i, s, h1, h2, h3⟩, h4, h5, h6⟩ := h
  exact ⟨⟨i, s, h1, by omega, h3⟩, h4, h5, h6⟩
theorem CurIs.grow {A g : Nat} {ca : Option Addr} {cl cc : Nat} {w w' : World} (h : CurIs A g ca cl cc w) (hb : Below w.heap.size w w') : CurIs A g ca cl cc w' := by
  have hlt := h.lt
  obtain ⟨⟨i, s, h1, h2⟩, h4, h5, h6⟩ := h
  refine ⟨⟨i, s, (hb.block g hlt).trans h1, h2⟩, ?_, h5, h6⟩
  rcases Nat.eq_zero_or_pos cl with rfl | hl
  · exact .zero _ _
  · exact h4.keep fun a ha => hb.block _ (h4.lt hl a ha)
/-- A call that turns the cursor alone. -/
def CurPost (R : Value → Prop) (A g : Nat) (ca : Option Addr) (cl cc : Nat) (w : World) (e : Ending) (w' : World) : Prop := ∃ v, R v ∧ e = .returned v ∧ CurIs A g ca cl cc w' ∧ Chg [g] w w'
/-- A number in bounds. -/
def IntIn (lo hi : Int) (v : Value) : Prop := ∃ n : Int, lo ≤ n ∧ n ≤ hi ∧ v = .int .i64 n
/-- The part of the memory that the cursor is. -/
def CurA (A g : Nat) (ca : Option Addr) (cl cc : Nat) : Asn where
  p w F := F = [g] ∧ ∃ (i : Nat) (s : Int), w.heap[g]? = some (.cells #[.slice ca cl cc, .int .i64 i, .int .u64 s] 54 (0, 0)) ∧ i ≤ A ∧ 0 ≤ s ∧ s < 18446744073709551616
  lt := by
    rintro w F ⟨rfl, i, s, h, _⟩ b hb
    obtain rfl : b = g := by simpa using hb
    rcases Nat.lt_or_ge b w.heap.size with h' | h'
    · exact h'
    · rw [Array.getElem?_eq_none h'] at h; cases h
  keep := by
    rintro w w' F ⟨rfl, i, s, h, h2⟩ hk
    exact ⟨rfl, i, s, (hk g (by simp)).trans h, h2⟩
section
variable {w0 w w' : World} {ps : List Asn} {i A A' g cl cc : Nat} {ca : Option Addr}
theorem Sp.cur (h : Sp w0 w ps) (hi : ps[i]? = some (CurA A g ca cl cc)) (hc : CodeOk w0 ca cl) (hs : cl ≤ 65536) :
    CurIs A g ca cl cc w ∧ ∀ w', CurIs A' g ca cl cc w' → Chg [g] w w' → Sp w0 w' (ps.set i (CurA A' g ca cl cc)) := by
  obtain ⟨F, ⟨rfl, hh⟩, hF, hall⟩ := h.upd hi
  have hg := hF g (by simp)
  refine ⟨⟨hh, hc.grow h.below, fun hp a ha => by have := hc.lt hp a ha; omega, hs⟩, fun w' h1 h2 => hall w' _ [g] h2 ⟨rfl, h1.ok⟩ fun b hb => .inl hb⟩
end

theorem u64_in (x : Int) : 0 ≤ IntKind.u64.wrap x ∧ IntKind.u64.wrap x < 18446744073709551616 := by
  have h : IntKind.u64.wrap x = x % 18446744073709551616 := by rfl
  rw [h]; omega
theorem and255 (y : Int) : 0 ≤ bits .and .u64 y 255 ∧ bits .and .u64 y 255 ≤ 255 := by
  have h : bits .and .u64 y 255 = IntKind.u64.wrap (((BitVec.ofInt 64 y &&& BitVec.ofInt 64 255).toNat : Nat) : Int) := rfl
  have h2 : (BitVec.ofInt 64 y &&& BitVec.ofInt 64 255).toNat ≤ 255 := by
    rw [BitVec.toNat_and]
    exact Nat.le_trans Nat.and_le_right (by decide)
  rw [h, IntKind.wrap_u64]
  omega
theorem and255w (y : Int) : 0 ≤ wrap64 (bits .and .u64 y 255) ∧ wrap64 (bits .and .u64 y 255) ≤ 255 := by
  have := and255 y
  unfold wrap64
  omega
theorem cur_step {A g cl cc i : Nat} {ca : Option Addr} {w : World} {s s' : Int} (hg : w.heap[g]? = some (.cells #[.slice ca cl cc, .int .i64 i, .int .u64 s] 54 (0, 0))) (hi : i ≤ A) (hs : 0 ≤ s' ∧ s' < 18446744073709551616)
    (hcode : CodeOk w ca cl) (hfar : 0 < cl → ∀ a, ca = some a → a.block ≠ g) (hsm : cl ≤ 65536) (n m : Nat) :
    CurIs (A + 1) g ca cl cc ((((w.drewN n).setCell ⟨g, 1, none⟩ (.int .i64 ((i : Int) + 1))).setCell ⟨g, 2, none⟩ (.int .u64 s')).drewN m) ∧ Chg [g] w ((((w.drewN n).setCell ⟨g, 1, none⟩ (.int .i64 ((i : Int) + 1))).setCell ⟨g, 2, none⟩ (.int .u64 s')).drewN m) := by
  have hother : ∀ k, k ≠ g → ((((w.drewN n).setCell ⟨g, 1, none⟩ (.int .i64 ((i : Int) + 1))).setCell ⟨g, 2, none⟩ (.int .u64 s')).drewN m).heap[k]? = w.heap[k]? := fun k hk => by
    show (((w.drewN n).setCell ⟨g, 1, none⟩ (.int .i64 ((i : Int) + 1))).setCell ⟨g, 2, none⟩ (.int .u64 s')).heap[k]? = _
    rw [Below.heap_setCell _ _ _ _ hk, Below.heap_setCell _ _ _ _ hk]
    rfl
  have hg' : (w.drewN n).heap[g]? = some (.cells #[.slice ca cl cc, .int .i64 i, .int .u64 s] 54 (0, 0)) := hg
  have hcodeN : CodeOk ((((w.drewN n).setCell ⟨g, 1, none⟩ (.int .i64 ((i : Int) + 1))).setCell ⟨g, 2, none⟩ (.int .u64 s')).drewN m) ca cl := by
    rcases Nat.eq_zero_or_pos cl with h0 | hp
    · rw [h0]; exact .zero _ _
    · exact hcode.keep fun a ha => hother _ (hfar hp a ha)
  refine ⟨⟨⟨i + 1, s', ?_, by omega, hs⟩, hcodeN, hfar, hsm⟩, ⟨rfl, rfl, rfl, by show _ ≤ (((w.drewN n).setCell _ _).setCell _ _).heap.size; simp [World.setCell], fun k _ hn => hother k (by simpa using hn)⟩⟩
  show (((w.drewN n).setCell ⟨g, 1, none⟩ (.int .i64 ((i : Int) + 1))).setCell ⟨g, 2, none⟩ (.int .u64 s')).heap[g]? = _
  simp [World.setCell, Array.getElem?_modify]
  exact ⟨_, hg', rfl⟩

set_option maxRecDepth 100000 in
set_option maxHeartbeats 2000000 in
theorem cur_next (A g : Nat) (ca : Option Addr) (cl cc : Nat) (w : World) (h : CurIs A g ca cl cc w) (hA : A ≤ 1000000000) :
    Calls Try.prog 56 #[.pointer (some ⟨g, 0, none⟩)] w (CurPost (IntIn 0 255) (A + 1) g ca cl cc w) := by
  obtain ⟨⟨i, s, hg, hiA, hs0, hs1⟩, hcode, hfar, hsm⟩ := h
  have S0 : Sp w w [] := Sp.start w
  have c0 : w.cell? ⟨g, 0, none⟩ = some (.slice ca cl cc) := by simp [World.cell?, hg]
  have c1 : w.cell? ⟨g, 1, none⟩ = some (.int .i64 i) := by simp [World.cell?, hg]
  have c2 : w.cell? ⟨g, 2, none⟩ = some (.int .u64 s) := by simp [World.cell?, hg]
  have f1 : w.frozen? ⟨g, 1, none⟩ = false := by simp [World.frozen?, hg]
  have f2 : w.frozen? ⟨g, 2, none⟩ = false := by simp [World.frozen?, hg]
  by_cases hlt : i < cl
  · obtain ⟨cb, off, x, rfl, hx, hx0, hx1⟩ := hcode i hlt
    have hne := hfar (by omega) _ rfl
    have hlt' : (i : Int) < (cl : Int) := by omega
    go_enter Try.func56, Try.ntmps56
    go_wp2_with fail
    go_quiet (fail)
    go_wp2_with fail
    go_quiet (fail)
    go_wp2_with fail
    go_quiet (fail)
    go_wp2_with fail
    go_ret
    obtain ⟨h1, h2⟩ := cur_step hg hiA (u64_in _) hcode hfar hsm _ _
    exact ⟨_, ⟨x, hx0, hx1, rfl⟩, rfl, h1, h2⟩
  · have hge : ¬ (i : Int) < (cl : Int) := by omega
    go_enter Try.func56, Try.ntmps56
    go_wp2_with fail
    go_quiet (fail)
    go_wp2_with fail
    go_quiet (fail)
    go_wp2_with fail
    go_ret
    obtain ⟨h1, h2⟩ := cur_step hg hiA (u64_in _) hcode hfar hsm _ _
    exact ⟨_, ⟨_, (and255w _).1, (and255w _).2, rfl⟩, rfl, h1, h2⟩

theorem Chg.cell {F : List Nat} {w w' : World} {b o : Nat} {v : Value} (h : Chg F w w') (hc : w.cell? ⟨b, o, none⟩ = some v) (hb : b ∉ F) : w'.cell? ⟨b, o, none⟩ = some v :=
  (World.cell?_of_block (a := ⟨b, o, none⟩) (h.block b (World.block_lt_of_cell? _ _ hc) hb)).trans hc

set_option maxHeartbeats 2000000 in
theorem cur_pick (n : Int) (A g : Nat) (ca : Option Addr) (cl cc : Nat) (w : World) (h : CurIs A g ca cl cc w) (hA : A ≤ 100000000) (hn : n ≤ 1000000000) :
    Calls Try.prog 31 #[.pointer (some ⟨g, 0, none⟩), .int .i64 n] w (CurPost (IntIn 0 (if n ≤ 1 then 0 else n - 1)) (A + 2) g ca cl cc w) := by
  by_cases h1 : n ≤ 1
  · rw [if_pos h1]
    go_enter Try.func31, Try.ntmps31
    go_wp2_with fail
    go_ret
    exact ⟨_, ⟨0, by omega, by omega, rfl⟩, rfl, h.mono (by omega), Chg.refl _ _⟩
  rw [if_neg h1]
  have hn1 : 1 < n := by omega
  have hn0 : 0 < n := by omega
  by_cases h2 : 200 < n
  · go_enter Try.func31, Try.ntmps31
    go_wp2_with fail
    refine (cur_next A g ca cl cc w h (by omega)).mono ?_
    rintro e w1 ⟨_, ⟨x, hx0, hx1, rfl⟩, rfl, hi1, hc1⟩
    go_wp2_with fail
    refine (cur_next (A + 1) g ca cl cc w1 hi1 (by omega)).mono ?_
    rintro e w2 ⟨_, ⟨y, hy0, hy1, rfl⟩, rfl, hi2, hc2⟩
    have hxy : 0 ≤ x * 256 + y := by omega
    have hm := Int.emod_nonneg (x * 256 + y) (by omega : n ≠ 0)
    have hm2 := Int.emod_lt_of_pos (x * 256 + y) hn0
    have hc := hc1.trans hc2
    replace hm := Lib.hid hm
    replace hm2 := Lib.hid hm2
    go_wp2_with fail
    go_ret
    exact ⟨_, ⟨_, hm.out, by have := hm2.out; omega, rfl⟩, rfl, hi2, hc⟩
  · go_enter Try.func31, Try.ntmps31
    go_wp2_with fail
    refine (cur_next A g ca cl cc w h (by omega)).mono ?_
    rintro e w1 ⟨_, ⟨x, hx0, hx1, rfl⟩, rfl, hi1, hc1⟩
    have hm := Int.emod_nonneg x (by omega : n ≠ 0)
    have hm2 := Int.emod_lt_of_pos x hn0
    replace hm := Lib.hid hm
    replace hm2 := Lib.hid hm2
    go_wp2_with fail
    go_ret
    exact ⟨_, ⟨_, hm.out, by have := hm2.out; omega, rfl⟩, rfl, hi1.mono (by omega), hc1⟩
theorem cur_pick_at {lo hi : Int} {n : Int} {A g : Nat} {ca : Option Addr} {cl cc : Nat} {w : World} (h : CurIs A g ca cl cc w) (hA : A ≤ 100000000) (hn : n ≤ 1000000000) (h1 : lo ≤ 0) (h2 : 0 ≤ hi) (h3 : n - 1 ≤ hi) :
    Calls Try.prog 31 #[.pointer (some ⟨g, 0, none⟩), .int .i64 n] w (CurPost (IntIn lo hi) (A + 2) g ca cl cc w) :=
  (cur_pick n A g ca cl cc w h hA hn).mono fun e w' ⟨v, ⟨x, hx0, hx1, hx⟩, r⟩ => ⟨v, ⟨x, by omega, by split at hx1 <;> omega, hx⟩, r⟩

/-- Some bool. -/
def IsBool (v : Value) : Prop := ∃ q : Bool, v = .bool q
theorem cur_one (n : Int) (A g : Nat) (ca : Option Addr) (cl cc : Nat) (w : World) (h : CurIs A g ca cl cc w) (hA : A ≤ 100000000) (hn : n ≤ 1000000000) :
    Calls Try.prog 48 #[.pointer (some ⟨g, 0, none⟩), .int .i64 n] w (CurPost IsBool (A + 2) g ca cl cc w) := by
  go_enter Try.func48, Try.ntmps48
  go_wp2_with fail
  refine (cur_pick n A g ca cl cc w h hA hn).mono ?_
  rintro e w1 ⟨_, ⟨x, _, _, rfl⟩, rfl, hi1, hc1⟩
  go_wp2_with fail
  go_ret
  exact ⟨_, ⟨_, rfl⟩, rfl, hi1, hc1⟩

/-- A string of which R holds. -/
def StrR (R : ByteArray → Prop) (v : Value) : Prop := ∃ s, R s ∧ v = .string s
/-- A list of strings of which R holds. -/
def StrsR (R : ByteArray → Prop) (w : World) (b off m : Nat) : Prop := ∀ j, j < m → ∃ s, R s ∧ w.cell? ⟨b, off + j, none⟩ = some (.string s)

/- left out: the seat has no (*loop.example/g01080/spec.l1Cur).of -/

set_option maxHeartbeats 2000000 in
theorem cur_among (lo hi : Int) (b off m c : Nat) (A g : Nat) (ca : Option Addr) (cl cc : Nat) (w : World) (h : CurIs A g ca cl cc w) (hA : A ≤ 100000000) (hm0 : 0 < m) (hm : m ≤ 1000000) (hs : ∀ j, j < m → ∃ x, lo ≤ x ∧ x ≤ hi ∧ w.cell? ⟨b, off + j, none⟩ = some (.int .i64 x)) (hb : b ≠ g) :
    Calls Try.prog 30 #[.pointer (some ⟨g, 0, none⟩), .slice (some ⟨b, off, none⟩) m c] w (CurPost (IntIn lo hi) (A + 2) g ca cl cc w) := by
  go_enter Try.func30, Try.ntmps30
  go_wp2_with fail
  refine (cur_pick_at (lo := 0) (hi := (m : Int) - 1) h hA (by omega) (by omega) (by omega) (by omega)).mono ?_
  rintro e w1 ⟨_, ⟨x, hx0, hx1, rfl⟩, rfl, hi1, hc1⟩
  obtain ⟨k, rfl⟩ := Int.eq_ofNat_of_zero_le hx0
  have hk : k < m := by omega
  have hk' : (k : Int) < (m : Int) := by omega
  obtain ⟨y, hy0, hy1, hcell⟩ := hs k hk
  have k0 := hc1.cell hcell (by simpa using hb)
  clear hx1
  go_wp2_with fail
  go_ret
  exact ⟨_, ⟨y, hy0, hy1, rfl⟩, rfl, hi1, hc1⟩
end Go.Proofs.Ytcdgpekefiplnaa
