/- Lemmas and contracts for a law, put together out of several texts: MdC Cur CurS NwH ClO ClQ CurK MdD MdE MdF MdP MdT BrA CoA CoB CoC. -/
import Derived.Test.YtnfjgebfmnpkbaaGreatMg2
import Derived.Test.YtnfjgebfmnpkbaaGreatMg1
import Derived.Test.YtnfjgebfmnpkbaaGreatProg
import Derived.WalkLawsBesides
import Derived.WalkSpells
import Derived.Lib.Hide
import Derived.Deep.DeepCutAuto
import Derived.Deep.CutBlock
import Derived.Lib.SliceRun
/- Contracts: the least model, satisfiability and implied clauses, in the reference. -/
namespace Go.Proofs.YtnfjgebfmnpkbaaGreat
open Go.RowKit

theorem first_at {p : Nat → Bool} {k N : Nat} (hk : k < N) (h0 : (List.range k).any p = false) (h1 : p k = true) : idxP p (List.range N) = (k : Int) := by
  unfold idxP
  have ha : (List.range N).any p = true := List.any_eq_true.2 ⟨k, List.mem_range.2 hk, h1⟩
  rw [if_pos ha]
  have hl : k < (List.range N).length := by simpa using hk
  have : (List.range N).findIdx p = k := (List.findIdx_eq hl).2 ⟨by simpa using h1, fun j hj => by
    rw [List.any_eq_false] at h0
    have := h0 j (List.mem_range.2 hj)
    simpa using this⟩
  rw [this]
theorem first_no {p : Nat → Bool} {N : Nat} (h0 : (List.range N).any p = false) : idxP p (List.range N) = -1 := by
  unfold idxP
  rw [if_neg (by rw [h0]; decide)]
theorem rany_next {p : Nat → Bool} {k : Nat} : (List.range (k + 1)).any p = ((List.range k).any p || p k) := by
  simp [List.range_succ, List.any_append]
theorem rany_yes {p : Nat → Bool} {k N : Nat} (hk : k < N) (h : p k = true) : (List.range N).any p = true := List.any_eq_true.2 ⟨k, List.mem_range.2 hk, h⟩

/- left out: the seat has no spec.l5First -/

/- left out: the seat has no spec.l5Sat -/

/- left out: the seat has no spec.l5Implies -/
end Go.Proofs.YtnfjgebfmnpkbaaGreat

/- Contracts: the cursor that draws from bytes. -/
namespace Go.Proofs.YtnfjgebfmnpkbaaGreat
open Go.RowKit

/-- The bytes that a slice holds can be read. -/
def CodeOk (w : World) (ca : Option Addr) (cl : Nat) : Prop := ∀ j, j < cl → ∃ cb off x, ca = some ⟨cb, off, none⟩ ∧ w.cell? ⟨cb, off + j, none⟩ = some (.int .u8 x) ∧ 0 ≤ x ∧ x ≤ 255
/-- The cursor's block. -/
structure CurIs (A : Nat) (g : Nat) (ca : Option Addr) (cl cc : Nat) (w : World) : Prop where
  ok : ∃ (i : Nat) (s : Int), w.heap[g]? = some (.cells #[.slice ca cl cc, .int .i64 i, .int .u64 s] 62 (0, 0)) ∧ i ≤ A ∧ 0 ≤ s ∧ s < 18446744073709551616
  code : CodeOk w ca cl
  far : 0 < cl → ∀ a, ca = some a → a.block ≠ g
  small : cl ≤ 65536
theorem CodeOk.keep {w w' : World} {ca : Option Addr} {cl : Nat} (h : CodeOk w ca cl) (hk : ∀ a, ca = some a → w'.heap[a.block]? = w.heap[a.block]?) : CodeOk w' ca cl := fun j hj => by
  obtain ⟨cb, off, x, rfl, h1, h2⟩ := h j hj
  exact ⟨cb, off, x, rfl, (World.cell?_of_block (a := ⟨cb, off + j, none⟩) (hk ⟨cb, off, none⟩ rfl)).trans h1, h2⟩
theorem CodeOk.lt {w : World} {ca : Option Addr} {cl : Nat} (h : CodeOk w ca cl) (hl : 0 < cl) : ∀ a, ca = some a → a.block < w.heap.size := by
  obtain ⟨cb, off, x, rfl, h1, _⟩ := h 0 hl
  rintro a e
  cases e
  exact World.block_lt_of_cell? _ _ h1
theorem CodeOk.zero (w : World) (ca : Option Addr) : CodeOk w ca 0 := fun j hj => absurd hj (by omega)
theorem CodeOk.grow {w w' : World} {ca : Option Addr} {cl : Nat} (h : CodeOk w ca cl) (hb : Below w.heap.size w w') : CodeOk w' ca cl := by
  rcases Nat.eq_zero_or_pos cl with rfl | hl
  · exact .zero _ _
  · exact h.keep fun a ha => hb.block _ (h.lt hl a ha)
theorem CurIs.lt {A g : Nat} {ca : Option Addr} {cl cc : Nat} {w : World} (h : CurIs A g ca cl cc w) : g < w.heap.size := by
  obtain ⟨i, s, h, _⟩ := h.ok
  rcases Nat.lt_or_ge g w.heap.size with h' | h'
  · exact h'
  · rw [Array.getElem?_eq_none h'] at h; cases h
theorem CurIs.mono {A A' g : Nat} {ca : Option Addr} {cl cc : Nat} {w : World} (h : CurIs A g ca cl cc w) (hA : A ≤ A') : CurIs A' g ca cl cc w := by
  obtain ⟨⟨i, s, h1, h2, h3⟩, h4, h5, h6⟩ := h
  exact ⟨⟨i, s, h1, by omega, h3⟩, h4, h5, h6⟩
theorem CurIs.grow {A g : Nat} {ca : Option Addr} {cl cc : Nat} {w w' : World} (h : CurIs A g ca cl cc w) (hb : Below w.heap.size w w') : CurIs A g ca cl cc w' := by
  have hlt := h.lt
  obtain ⟨⟨i, s, h1, h2⟩, h4, h5, h6⟩ := h
  refine ⟨⟨i, s, (hb.block g hlt).trans h1, h2⟩, ?_, h5, h6⟩
  rcases Nat.eq_zero_or_pos cl with rfl | hl
  · exact .zero _ _
  · exact h4.keep fun a ha => hb.block _ (h4.lt hl a ha)
/-- A call that turns the cursor alone. -/
def CurPost (R : Value → Prop) (A g : Nat) (ca : Option Addr) (cl cc : Nat) (w : World) (e : Ending) (w' : World) : Prop := ∃ v, R v ∧ e = .returned v ∧ CurIs A g ca cl cc w' ∧ Chg [g] w w'
/-- A number in bounds. -/
def IntIn (lo hi : Int) (v : Value) : Prop := ∃ n : Int, lo ≤ n ∧ n ≤ hi ∧ v = .int .i64 n
/-- The part of the memory that the cursor is. -/
def CurA (A g : Nat) (ca : Option Addr) (cl cc : Nat) : Asn where
  p w F := F = [g] ∧ ∃ (i : Nat) (s : Int), w.heap[g]? = some (.cells #[.slice ca cl cc, .int .i64 i, .int .u64 s] 62 (0, 0)) ∧ i ≤ A ∧ 0 ≤ s ∧ s < 18446744073709551616
  lt := by
    rintro w F ⟨rfl, i, s, h, _⟩ b hb
    obtain rfl : b = g := by simpa using hb
    rcases Nat.lt_or_ge b w.heap.size with h' | h'
    · exact h'
    · rw [Array.getElem?_eq_none h'] at h; cases h
  keep := by
    rintro w w' F ⟨rfl, i, s, h, h2⟩ hk
    exact ⟨rfl, i, s, (hk g (by simp)).trans h, h2⟩
section
variable {w0 w w' : World} {ps : List Asn} {i A A' g cl cc : Nat} {ca : Option Addr}
theorem Sp.cur (h : Sp w0 w ps) (hi : ps[i]? = some (CurA A g ca cl cc)) (hc : CodeOk w0 ca cl) (hs : cl ≤ 65536) :
    CurIs A g ca cl cc w ∧ ∀ w', CurIs A' g ca cl cc w' → Chg [g] w w' → Sp w0 w' (ps.set i (CurA A' g ca cl cc)) := by
  obtain ⟨F, ⟨rfl, hh⟩, hF, hall⟩ := h.upd hi
  have hg := hF g (by simp)
  refine ⟨⟨hh, hc.grow h.below, fun hp a ha => by have := hc.lt hp a ha; omega, hs⟩, fun w' h1 h2 => hall w' _ [g] h2 ⟨rfl, h1.ok⟩ fun b hb => .inl hb⟩
end

theorem u64_in (x : Int) : 0 ≤ IntKind.u64.wrap x ∧ IntKind.u64.wrap x < 18446744073709551616 := by
  have h : IntKind.u64.wrap x = x % 18446744073709551616 := by rfl
  rw [h]; omega
theorem and255 (y : Int) : 0 ≤ bits .and .u64 y 255 ∧ bits .and .u64 y 255 ≤ 255 := by
  have h : bits .and .u64 y 255 = IntKind.u64.wrap (((BitVec.ofInt 64 y &&& BitVec.ofInt 64 255).toNat : Nat) : Int) := rfl
  have h2 : (BitVec.ofInt 64 y &&& BitVec.ofInt 64 255).toNat ≤ 255 := by
    rw [BitVec.toNat_and]
    exact Nat.le_trans Nat.and_le_right (by decide)
  rw [h, IntKind.wrap_u64]
  omega
theorem and255w (y : Int) : 0 ≤ wrap64 (bits .and .u64 y 255) ∧ wrap64 (bits .and .u64 y 255) ≤ 255 := by
  have := and255 y
  unfold wrap64
  omega
theorem cur_step {A g cl cc i : Nat} {ca : Option Addr} {w : World} {s s' : Int} (hg : w.heap[g]? = some (.cells #[.slice ca cl cc, .int .i64 i, .int .u64 s] 62 (0, 0))) (hi : i ≤ A) (hs : 0 ≤ s' ∧ s' < 18446744073709551616)
    (hcode : CodeOk w ca cl) (hfar : 0 < cl → ∀ a, ca = some a → a.block ≠ g) (hsm : cl ≤ 65536) (n m : Nat) :
    CurIs (A + 1) g ca cl cc ((((w.drewN n).setCell ⟨g, 1, none⟩ (.int .i64 ((i : Int) + 1))).setCell ⟨g, 2, none⟩ (.int .u64 s')).drewN m) ∧ Chg [g] w ((((w.drewN n).setCell ⟨g, 1, none⟩ (.int .i64 ((i : Int) + 1))).setCell ⟨g, 2, none⟩ (.int .u64 s')).drewN m) := by
  have hother : ∀ k, k ≠ g → ((((w.drewN n).setCell ⟨g, 1, none⟩ (.int .i64 ((i : Int) + 1))).setCell ⟨g, 2, none⟩ (.int .u64 s')).drewN m).heap[k]? = w.heap[k]? := fun k hk => by
    show (((w.drewN n).setCell ⟨g, 1, none⟩ (.int .i64 ((i : Int) + 1))).setCell ⟨g, 2, none⟩ (.int .u64 s')).heap[k]? = _
    rw [Below.heap_setCell _ _ _ _ hk, Below.heap_setCell _ _ _ _ hk]
    rfl
  have hg' : (w.drewN n).heap[g]? = some (.cells #[.slice ca cl cc, .int .i64 i, .int .u64 s] 62 (0, 0)) := hg
  have hcodeN : CodeOk ((((w.drewN n).setCell ⟨g, 1, none⟩ (.int .i64 ((i : Int) + 1))).setCell ⟨g, 2, none⟩ (.int .u64 s')).drewN m) ca cl := by
    rcases Nat.eq_zero_or_pos cl with h0 | hp
    · rw [h0]; exact .zero _ _
    · exact hcode.keep fun a ha => hother _ (hfar hp a ha)
  refine ⟨⟨⟨i + 1, s', ?_, by omega, hs⟩, hcodeN, hfar, hsm⟩, ⟨rfl, rfl, rfl, by show _ ≤ (((w.drewN n).setCell _ _).setCell _ _).heap.size; simp [World.setCell], fun k _ hn => hother k (by simpa using hn)⟩⟩
  show (((w.drewN n).setCell ⟨g, 1, none⟩ (.int .i64 ((i : Int) + 1))).setCell ⟨g, 2, none⟩ (.int .u64 s')).heap[g]? = _
  simp [World.setCell, Array.getElem?_modify]
  exact ⟨_, hg', rfl⟩

set_option maxRecDepth 100000 in
set_option maxHeartbeats 2000000 in
theorem cur_next (A g : Nat) (ca : Option Addr) (cl cc : Nat) (w : World) (h : CurIs A g ca cl cc w) (hA : A ≤ 1000000000) :
    Calls Tryz.prog 68 #[.pointer (some ⟨g, 0, none⟩)] w (CurPost (IntIn 0 255) (A + 1) g ca cl cc w) := by
  obtain ⟨⟨i, s, hg, hiA, hs0, hs1⟩, hcode, hfar, hsm⟩ := h
  have S0 : Sp w w [] := Sp.start w
  have c0 : w.cell? ⟨g, 0, none⟩ = some (.slice ca cl cc) := by simp [World.cell?, hg]
  have c1 : w.cell? ⟨g, 1, none⟩ = some (.int .i64 i) := by simp [World.cell?, hg]
  have c2 : w.cell? ⟨g, 2, none⟩ = some (.int .u64 s) := by simp [World.cell?, hg]
  have f1 : w.frozen? ⟨g, 1, none⟩ = false := by simp [World.frozen?, hg]
  have f2 : w.frozen? ⟨g, 2, none⟩ = false := by simp [World.frozen?, hg]
  by_cases hlt : i < cl
  · obtain ⟨cb, off, x, rfl, hx, hx0, hx1⟩ := hcode i hlt
    have hne := hfar (by omega) _ rfl
    have hlt' : (i : Int) < (cl : Int) := by omega
    go_enter Tryz.func68, Tryz.ntmps68
    go_wp2_with fail
    go_quiet (fail)
    go_wp2_with fail
    go_quiet (fail)
    go_wp2_with fail
    go_quiet (fail)
    go_wp2_with fail
    go_ret
    obtain ⟨h1, h2⟩ := cur_step hg hiA (u64_in _) hcode hfar hsm _ _
    exact ⟨_, ⟨x, hx0, hx1, rfl⟩, rfl, h1, h2⟩
  · have hge : ¬ (i : Int) < (cl : Int) := by omega
    go_enter Tryz.func68, Tryz.ntmps68
    go_wp2_with fail
    go_quiet (fail)
    go_wp2_with fail
    go_quiet (fail)
    go_wp2_with fail
    go_ret
    obtain ⟨h1, h2⟩ := cur_step hg hiA (u64_in _) hcode hfar hsm _ _
    exact ⟨_, ⟨_, (and255w _).1, (and255w _).2, rfl⟩, rfl, h1, h2⟩

theorem Chg.cell {F : List Nat} {w w' : World} {b o : Nat} {v : Value} (h : Chg F w w') (hc : w.cell? ⟨b, o, none⟩ = some v) (hb : b ∉ F) : w'.cell? ⟨b, o, none⟩ = some v :=
  (World.cell?_of_block (a := ⟨b, o, none⟩) (h.block b (World.block_lt_of_cell? _ _ hc) hb)).trans hc

set_option maxHeartbeats 2000000 in
theorem cur_pick (n : Int) (A g : Nat) (ca : Option Addr) (cl cc : Nat) (w : World) (h : CurIs A g ca cl cc w) (hA : A ≤ 100000000) (hn : n ≤ 1000000000) :
    Calls Tryz.prog 51 #[.pointer (some ⟨g, 0, none⟩), .int .i64 n] w (CurPost (IntIn 0 (if n ≤ 1 then 0 else n - 1)) (A + 2) g ca cl cc w) := by
  by_cases h1 : n ≤ 1
  · rw [if_pos h1]
    go_enter Tryz.func51, Tryz.ntmps51
    go_wp2_with fail
    go_ret
    exact ⟨_, ⟨0, by omega, by omega, rfl⟩, rfl, h.mono (by omega), Chg.refl _ _⟩
  rw [if_neg h1]
  have hn1 : 1 < n := by omega
  have hn0 : 0 < n := by omega
  by_cases h2 : 200 < n
  · go_enter Tryz.func51, Tryz.ntmps51
    go_wp2_with fail
    refine (cur_next A g ca cl cc w h (by omega)).mono ?_
    rintro e w1 ⟨_, ⟨x, hx0, hx1, rfl⟩, rfl, hi1, hc1⟩
    go_wp2_with fail
    refine (cur_next (A + 1) g ca cl cc w1 hi1 (by omega)).mono ?_
    rintro e w2 ⟨_, ⟨y, hy0, hy1, rfl⟩, rfl, hi2, hc2⟩
    have hxy : 0 ≤ x * 256 + y := by omega
    have hm := Int.emod_nonneg (x * 256 + y) (by omega : n ≠ 0)
    have hm2 := Int.emod_lt_of_pos (x * 256 + y) hn0
    have hc := hc1.trans hc2
    replace hm := Lib.hid hm
    replace hm2 := Lib.hid hm2
    go_wp2_with fail
    go_ret
    exact ⟨_, ⟨_, hm.out, by have := hm2.out; omega, rfl⟩, rfl, hi2, hc⟩
  · go_enter Tryz.func51, Tryz.ntmps51
    go_wp2_with fail
    refine (cur_next A g ca cl cc w h (by omega)).mono ?_
    rintro e w1 ⟨_, ⟨x, hx0, hx1, rfl⟩, rfl, hi1, hc1⟩
    have hm := Int.emod_nonneg x (by omega : n ≠ 0)
    have hm2 := Int.emod_lt_of_pos x hn0
    replace hm := Lib.hid hm
    replace hm2 := Lib.hid hm2
    go_wp2_with fail
    go_ret
    exact ⟨_, ⟨_, hm.out, by have := hm2.out; omega, rfl⟩, rfl, hi1.mono (by omega), hc1⟩
theorem cur_pick_at {lo hi : Int} {n : Int} {A g : Nat} {ca : Option Addr} {cl cc : Nat} {w : World} (h : CurIs A g ca cl cc w) (hA : A ≤ 100000000) (hn : n ≤ 1000000000) (h1 : lo ≤ 0) (h2 : 0 ≤ hi) (h3 : n - 1 ≤ hi) :
    Calls Tryz.prog 51 #[.pointer (some ⟨g, 0, none⟩), .int .i64 n] w (CurPost (IntIn lo hi) (A + 2) g ca cl cc w) :=
  (cur_pick n A g ca cl cc w h hA hn).mono fun e w' ⟨v, ⟨x, hx0, hx1, hx⟩, r⟩ => ⟨v, ⟨x, by omega, by split at hx1 <;> omega, hx⟩, r⟩

/-- Some bool. -/
def IsBool (v : Value) : Prop := ∃ q : Bool, v = .bool q
/- left out: the seat has no (*loop.example/g01080/spec.l1Cur).one -/

/-- A string of which R holds. -/
def StrR (R : ByteArray → Prop) (v : Value) : Prop := ∃ s, R s ∧ v = .string s
/-- A list of strings of which R holds. -/
def StrsR (R : ByteArray → Prop) (w : World) (b off m : Nat) : Prop := ∀ j, j < m → ∃ s, R s ∧ w.cell? ⟨b, off + j, none⟩ = some (.string s)

/- left out: the seat has no (*loop.example/g01080/spec.l1Cur).of -/

set_option maxHeartbeats 2000000 in
theorem cur_among (lo hi : Int) (b off m c : Nat) (A g : Nat) (ca : Option Addr) (cl cc : Nat) (w : World) (h : CurIs A g ca cl cc w) (hA : A ≤ 100000000) (hm0 : 0 < m) (hm : m ≤ 1000000) (hs : ∀ j, j < m → ∃ x, lo ≤ x ∧ x ≤ hi ∧ w.cell? ⟨b, off + j, none⟩ = some (.int .i64 x)) (hb : b ≠ g) :
    Calls Tryz.prog 54 #[.pointer (some ⟨g, 0, none⟩), .slice (some ⟨b, off, none⟩) m c] w (CurPost (IntIn lo hi) (A + 2) g ca cl cc w) := by
  go_enter Tryz.func54, Tryz.ntmps54
  go_wp2_with fail
  refine (cur_pick_at (lo := 0) (hi := (m : Int) - 1) h hA (by omega) (by omega) (by omega) (by omega)).mono ?_
  rintro e w1 ⟨_, ⟨x, hx0, hx1, rfl⟩, rfl, hi1, hc1⟩
  obtain ⟨k, rfl⟩ := Int.eq_ofNat_of_zero_le hx0
  have hk : k < m := by omega
  have hk' : (k : Int) < (m : Int) := by omega
  obtain ⟨y, hy0, hy1, hcell⟩ := hs k hk
  have k0 := hc1.cell hcell (by simpa using hb)
  clear hx1
  go_wp2_with fail
  go_ret
  exact ⟨_, ⟨y, hy0, hy1, rfl⟩, rfl, hi1, hc1⟩
end Go.Proofs.YtnfjgebfmnpkbaaGreat

/- Memory in parts beside a cursor that turns. -/
namespace Go.Proofs.YtnfjgebfmnpkbaaGreat
open Go.RowKit

theorem ints_new {lo hi : Int} {W : World} {cs : Array Value} {t : TypeId} {b n : Nat} (hb : b = W.heap.size) (h : ∀ j, j < n → ∃ x, cs[j]? = some (.int .i64 x) ∧ lo ≤ x ∧ x ≤ hi) : ∀ j, j < n → ∃ x, lo ≤ x ∧ x ≤ hi ∧ (W.alloc (.cells cs t)).cell? ⟨b, 0 + j, none⟩ = some (.int .i64 x) := fun j hj => by
  obtain ⟨x, h1, h2, h3⟩ := h j hj
  subst hb
  refine ⟨x, h2, h3, ?_⟩
  rw [Nat.zero_add]
  exact (cell_of_row _ _ _ _ _ _ (heap_alloc_new W _)).trans h1
theorem CurPost.chg {R : Value → Prop} {A g : Nat} {ca : Option Addr} {cl cc : Nat} {w w1 : World} {e : Ending} {w' : World} (h : CurPost R A g ca cl cc w1 e w') (hc : Chg [g] w w1) : CurPost R A g ca cl cc w e w' := by
  obtain ⟨v, h1, h2, h3, h4⟩ := h
  exact ⟨v, h1, h2, h3, hc.trans h4⟩
theorem CurIs.stay {A A' g cl cc : Nat} {ca : Option Addr} {w W W' : World} (h : CurIs A g ca cl cc w) (hi : CurIs A' g ca cl cc W) (hk : ∀ k, k < w.heap.size → W'.heap[k]? = W.heap[k]?) : CurIs A' g ca cl cc W' := by
  have hg := h.lt
  have hl := h.code
  obtain ⟨⟨i, s, h1, h2⟩, h3, h4, h5⟩ := hi
  refine ⟨⟨i, s, (hk g hg).trans h1, h2⟩, ?_, h4, h5⟩
  rcases Nat.eq_zero_or_pos cl with rfl | hp
  · exact .zero _ _
  · exact h3.keep fun a ha => hk _ (hl.lt hp a ha)

/-- Parts of the call's own, beside a cursor g that was there. -/
def CS (w0 : World) (g : Nat) (ca : Option Addr) (cl cc A : Nat) (w : World) (ps : List Asn) : Prop :=
  (∃ A0, CurIs A0 g ca cl cc w0) ∧ CurIs A g ca cl cc w ∧ Chg [g] w0 w ∧ ∃ F, sep ps w F ∧ ∀ b ∈ F, w0.heap.size ≤ b
section
variable {w0 w w' w1 : World} {g cl cc A A' i b o n n' size : Nat} {ca : Option Addr} {ps : List Asn} {q : Asn} {t e : TypeId} {cs : Array Value} {v v' : Value} {xs xs' : List Value}
theorem CS.start (h : CurIs A g ca cl cc w) : CS w g ca cl cc A w [] := ⟨⟨A, h⟩, h, Chg.refl _ _, [], rfl, by simp⟩
theorem CS.cur (h : CS w0 g ca cl cc A w ps) : CurIs A g ca cl cc w := h.2.1
theorem CS.chg (h : CS w0 g ca cl cc A w ps) : Chg [g] w0 w := h.2.2.1
theorem CS.glt (h : CS w0 g ca cl cc A w ps) : g < w0.heap.size := by obtain ⟨⟨A0, h0⟩, _⟩ := h; exact h0.lt
theorem CS.mono (h : CS w0 g ca cl cc A w ps) (hA : A ≤ A') : CS w0 g ca cl cc A' w ps := ⟨h.1, h.2.1.mono hA, h.2.2⟩
theorem CS.turn (h : CS w0 g ca cl cc A w ps) (hi : CurIs A' g ca cl cc w') (hc : Chg [g] w w') : CS w0 g ca cl cc A' w' ps := by
  have hg := h.glt
  obtain ⟨h0, h1, h2, F, h3, h4⟩ := h
  exact ⟨h0, hi, h2.trans hc, F, sep_keep h3 fun b hm => hc.block b (sep_lt h3 b hm) fun hb => by
    obtain rfl : b = g := by simpa using hb
    have := h4 b hm; omega, h4⟩
theorem CS.grow (h : CS w0 g ca cl cc A w ps) (hb : Below w.heap.size w w') : CS w0 g ca cl cc A w' ps := by
  obtain ⟨h0, h1, h2, F, h3, h4⟩ := h
  exact ⟨h0, h1.grow hb, h2.then hb, F, sep_keep h3 fun b hm => hb.block b (sep_lt h3 b hm), h4⟩
theorem CS.new {F : List Nat} (h : CS w0 g ca cl cc A w ps) (hb : Below w.heap.size w w') (hq : q.p w' F) (hF : ∀ b ∈ F, w.heap.size ≤ b) : CS w0 g ca cl cc A w' (q :: ps) := by
  have hsz := h.chg.size
  obtain ⟨h0, h1, h2, F', h3, h4⟩ := h
  refine ⟨h0, h1.grow hb, h2.then hb, F ++ F', ⟨F, F', rfl, fun b hm hm2 => ?_, hq, sep_keep h3 fun b hm => hb.block b (sep_lt h3 b hm)⟩, fun b hm => ?_⟩
  · have := hF b hm; have := sep_lt h3 b hm2; omega
  · rcases List.mem_append.1 hm with hm | hm
    · have := hF b hm; omega
    · exact h4 b hm
theorem CS.upd (h : CS w0 g ca cl cc A w ps) (hi : ps[i]? = some q) : ∃ Fi, q.p w Fi ∧ (∀ b ∈ Fi, w0.heap.size ≤ b) ∧
    ∀ w' q' Fi', Chg Fi w w' → q'.p w' Fi' → (∀ b ∈ Fi', b ∈ Fi ∨ w.heap.size ≤ b) → CS w0 g ca cl cc A w' (ps.set i q') := by
  have hsz := h.chg.size
  obtain ⟨h0, h1, h2, F, h3, h4⟩ := h
  obtain ⟨Fi, hp, hsub, hall⟩ := sep_upd h3 hi
  refine ⟨Fi, hp, fun b hb => h4 b (hsub b hb), fun w' q' Fi' hc hq hF => ?_⟩
  obtain ⟨F', hs, hF'⟩ := hall w' q' Fi' hc hq hF
  have hk : ∀ k, k < w0.heap.size → w'.heap[k]? = w.heap[k]? := fun k hk => hc.block k (Nat.lt_of_lt_of_le hk hsz) fun hm => by have := h4 k (hsub k hm); omega
  obtain ⟨A0, h0'⟩ := h0
  exact ⟨⟨A0, h0'⟩, h0'.stay h1 hk, ⟨hc.os.trans h2.os, hc.tape.trans h2.tape, hc.output.trans h2.output, Nat.le_trans h2.size hc.size, fun k hk' hn => (hk k hk').trans (h2.block k hk' hn)⟩, F', hs, fun b hb => (hF' b hb).elim (h4 b) (Nat.le_trans hsz)⟩
theorem CS.get (h : CS w0 g ca cl cc A w ps) (hi : ps[i]? = some q) : ∃ Fi, q.p w Fi ∧ (∀ b ∈ Fi, w0.heap.size ≤ b) := by
  obtain ⟨Fi, h1, h2, _⟩ := h.upd hi
  exact ⟨Fi, h1, h2⟩
theorem CS.tail (h : CS w0 g ca cl cc A w (q :: ps)) : CS w0 g ca cl cc A w ps := by
  obtain ⟨h0, h1, h2, F, ⟨F1, F2, rfl, _, _, h3⟩, h4⟩ := h
  exact ⟨h0, h1, h2, F2, h3, fun b hb => h4 b (List.mem_append.2 (.inr hb))⟩
theorem CS.swap {q' : Asn} (h : CS w0 g ca cl cc A w (q :: q' :: ps)) : CS w0 g ca cl cc A w (q' :: q :: ps) := by
  obtain ⟨h0, h1, h2, F, ⟨F1, F2, rfl, hd, hq, F3, F4, rfl, hd2, hq', h3⟩, h4⟩ := h
  refine ⟨h0, h1, h2, F3 ++ (F1 ++ F4), ⟨F3, F1 ++ F4, rfl, fun b hb hb2 => ?_, hq', F1, F4, rfl, fun b hb hb2 => hd b hb (List.mem_append.2 (.inr hb2)), hq, h3⟩, fun b hb => ?_⟩
  · rcases List.mem_append.1 hb2 with hb2 | hb2
    · exact hd b hb2 (List.mem_append.2 (.inl hb))
    · exact hd2 b hb hb2
  · apply h4
    simp only [List.mem_append] at hb ⊢
    rcases hb with h | h | h
    · exact .inr (.inl h)
    · exact .inl h
    · exact .inr (.inr h)
theorem CS.third {q1 q2 q3 : Asn} (h : CS w0 g ca cl cc A w (q1 :: q2 :: q3 :: ps)) : CS w0 g ca cl cc A w (q1 :: q2 :: ps) := by
  obtain ⟨h0, h1, h2, F, ⟨F1, F2, rfl, hd, hq, F3, F4, rfl, hd2, hq', F5, F6, rfl, hd3, hq3, h3⟩, h4⟩ := h
  refine ⟨h0, h1, h2, F1 ++ (F3 ++ F6), ⟨F1, F3 ++ F6, rfl, fun b hb hb2 => hd b hb ?_, hq, F3, F6, rfl, fun b hb hb2 => hd2 b hb (List.mem_append.2 (.inr hb2)), hq', h3⟩, fun b hb => h4 b ?_⟩
  · rcases List.mem_append.1 hb2 with h | h
    · exact List.mem_append.2 (.inl h)
    · exact List.mem_append.2 (.inr (List.mem_append.2 (.inr h)))
  · simp only [List.mem_append] at hb ⊢
    rcases hb with h | h | h
    · exact .inl h
    · exact .inr (.inl h)
    · exact .inr (.inr (.inr h))
/-- The second part is let go. -/
theorem CS.third2 {q1 q2 : Asn} (h : CS w0 g ca cl cc A w (q1 :: q2 :: ps)) : CS w0 g ca cl cc A w (q1 :: ps) := h.swap.tail
theorem CS.drew (h : CS w0 g ca cl cc A w ps) : CS w0 g ca cl cc A w.drew ps := h.grow (bdr (bb _))
theorem CS.alloc (h : CS w0 g ca cl cc A w ps) (o : Obj) : CS w0 g ca cl cc A (w.alloc o) ps := h.grow (bal (bb _) o)
theorem CS.alloc_box (h : CS w0 g ca cl cc A w ps) (cs : Array Value) (t : TypeId) : CS w0 g ca cl cc A (w.alloc (.cells cs t)) (Box w.heap.size t cs :: ps) :=
  h.new (bal (bb _) _) (F := [w.heap.size]) ⟨rfl, heap_alloc_new w _⟩ (by simp)
theorem CS.box (h : CS w0 g ca cl cc A w ps) (hi : ps[i]? = some (Box b t cs)) : w0.heap.size ≤ b ∧ b < w.heap.size ∧ w.heap[b]? = some (.cells cs t (0, 0)) := by
  obtain ⟨F, hp, hF⟩ := h.get hi
  have hlt := (Box b t cs).lt hp b
  obtain ⟨rfl, hh⟩ := hp
  exact ⟨hF b (by simp), hlt (by simp), hh⟩
theorem CS.cell (h : CS w0 g ca cl cc A w ps) (hi : ps[i]? = some (Box b t cs)) {u : Value} (ho : cs[o]? = some u) : w.cell? ⟨b, o, none⟩ = some u := by
  simp [World.cell?, (h.box hi).2.2, ho]
theorem CS.frozen (h : CS w0 g ca cl cc A w ps) (hi : ps[i]? = some (Box b t cs)) (o : Nat) : w.frozen? ⟨b, o, none⟩ = false := by
  simp [World.frozen?, (h.box hi).2.2]
theorem CS.store (h : CS w0 g ca cl cc A w ps) (hi : ps[i]? = some (Box b t cs)) (o : Nat) (u : Value) : CS w0 g ca cl cc A (w.setCell ⟨b, o, none⟩ u) (ps.set i (Box b t (cs.setIfInBounds o u))) := by
  obtain ⟨Fi, ⟨rfl, hh⟩, hF, hall⟩ := h.upd hi
  exact hall _ (Box b t (cs.setIfInBounds o u)) [b] ((Chg.refl _ _).set (by simp) _) ⟨rfl, by simp [World.setCell, Array.getElem?_modify, hh]⟩ fun b hb => .inl hb
theorem CS.own (h : CS w0 g ca cl cc A w ps) (hi : ps[i]? = some (Own e size v n xs)) : w.ownsRow 0 e size v n xs := by
  obtain ⟨F, hp, _⟩ := h.get hi
  exact hp.2
theorem CS.owns_end (h : CS w0 g ca cl cc A w ps) (hi : ps[i]? = some (Own e size v n xs)) : w.ownsRow w0.heap.size e size v n xs := by
  obtain ⟨F, ⟨rfl, h1⟩, h2⟩ := h.get hi
  exact owns_base h1 fun g hg => h2 g (by simp [hg])
theorem CS.own_new (h : CS w0 g ca cl cc A w ps) (hb : Below w.heap.size w w') (ho : w'.ownsRow 0 e size v n xs) (hv : ∀ g, v.ownBlock = some g → w.heap.size ≤ g) : CS w0 g ca cl cc A w' (Own e size v n xs :: ps) :=
  h.new hb (F := v.ownBlock.toList) ⟨rfl, ho⟩ fun b hm => hv b (by simpa using hm)
theorem CS.own_made (h : CS w0 g ca cl cc A w ps) (e : TypeId) (size : Nat) : CS w0 g ca cl cc A (w.alloc (.cells #[] e)) (Own e size (.slice (some ⟨w.heap.size, 0, none⟩) 0 0) 0 [] :: ps) :=
  h.own_new (bal (bb _) _) ⟨by simp, .inr ⟨w.heap.size, 0, #[], rfl, Nat.zero_le _, heap_alloc_new w _, Nat.le_refl _, by decide, by simp, by simp⟩⟩ (fun g hg => by
    have : w.heap.size = g := by simpa [Value.ownBlock] using hg
    omega)
theorem CS.own_push (h : CS w0 g ca cl cc A w ps) (hi : ps[i]? = some (Own e size v n xs)) (hb : Below w.heap.size w w1) (ho : w'.ownsRow 0 e size v' n' xs') (hg : w1.grownBy w' v.ownBlock)
    (hat : v'.ownBlock = v.ownBlock ∨ v'.ownBlock = some w1.heap.size) : CS w0 g ca cl cc A w' (ps.set i (Own e size v' n' xs')) := by
  obtain ⟨F, ⟨rfl, hh⟩, hF, hall⟩ := h.upd hi
  refine hall w' _ v'.ownBlock.toList ?_ ⟨rfl, ho⟩ fun b hm => ?_
  · exact ⟨hg.os.trans hb.os, hg.tape.trans hb.tape, hg.output.trans hb.output, Nat.le_trans hb.size hg.size, fun k hk hn =>
      (hg.block k (Nat.lt_of_lt_of_le hk hb.size) (fun e => hn (by simp [← e]))).trans (hb.block k hk)⟩
  · rcases hat with h1 | h1
    · exact .inl (by rw [h1] at hm; exact hm)
    · rw [h1] at hm
      obtain rfl : b = w1.heap.size := by simpa using hm
      exact .inr hb.size
/-- A store into an own row. -/
theorem CS.own_put {cap : Nat} {gx : Nat} (h : CS w0 g ca cl cc A w ps) (hi : ps[i]? = some (Own e size (.slice (some ⟨gx, 0, none⟩) n cap) n xs)) (u : Value) (ho : o < n * size) :
    CS w0 g ca cl cc A (w.setCell ⟨gx, o, none⟩ u) (ps.set i (Own e size (.slice (some ⟨gx, 0, none⟩) n cap) n (xs.set o u))) := by
  obtain ⟨F, ⟨rfl, hh⟩, hF, hall⟩ := h.upd hi
  have hlen := hh.1
  obtain ⟨g', cap', cur, e1, h0, hg, hn, hm, hc, ht⟩ := own_block hh (by
    rcases Nat.eq_zero_or_pos n with rfl | h
    · simp at ho
    · exact h)
  simp only [Value.slice.injEq, Option.some.injEq, Addr.mk.injEq] at e1
  obtain ⟨⟨rfl, _⟩, _, rfl⟩ := e1
  have hset : (w.setCell ⟨gx, o, none⟩ u).heap[gx]? = some (.cells (cur.setIfInBounds o u) e (0, 0)) := by
    simp [World.setCell, Array.getElem?_modify]
    exact ⟨_, hg, rfl⟩
  refine hall _ _ [gx] ?_ ⟨rfl, by rw [List.length_set]; exact hlen, .inr ⟨gx, cap, cur.setIfInBounds o u, rfl, Nat.zero_le _, hset, hn, hm, by rw [Array.size_setIfInBounds]; exact hc, ?_⟩⟩ fun b hb => .inl hb
  · exact ⟨rfl, rfl, rfl, by simp [World.setCell], fun k _ hn => Below.heap_setCell _ _ _ _ (by simpa [Value.ownBlock] using hn)⟩
  · rw [Array.toList_setIfInBounds, List.take_set, ht]
/-- Parts of a call's own go in front. -/
theorem CS.seq {qs : List Asn} (h : CS w0 g ca cl cc A w ps) (k : Sp w w' qs) : CS w0 g ca cl cc A w' (qs ++ ps) := by
  have hsz := h.chg.size
  obtain ⟨h0, h1, h2, G, h3, h4⟩ := h
  obtain ⟨k1, F, k2, k3⟩ := k
  refine ⟨h0, h1.grow k1, h2.then k1, F ++ G, sep_append k2 (sep_keep h3 fun b hm => k1.block b (sep_lt h3 b hm)) (fun b hb hb2 => ?_), fun b hb => ?_⟩
  · have := k3 b hb; have := sep_lt h3 b hb2; omega
  · rcases List.mem_append.1 hb with hm | hm
    · have := k3 b hm; omega
    · exact h4 b hm
end
end Go.Proofs.YtnfjgebfmnpkbaaGreat

/- Contracts: a number in a row, in the reference. -/
namespace Go.Proofs.YtnfjgebfmnpkbaaGreat
open Go.RowKit

/-- A number is in a row. -/
def hasI (xs : List Int) (x : Int) : Bool := xs.contains x
theorem hasI_no {xs : List Int} {x : Int} {k : Nat} (hk : k < xs.length) (h0 : hasI (xs.take k) x = false) (h : ¬ xs[k] = x) : hasI (xs.take (k + 1)) x = false := by
  unfold hasI at *
  rw [List.take_succ_eq_append_getElem hk, List.contains_append, h0]
  simp
  exact fun e => h e.symm
theorem hasI_yes {xs : List Int} {x : Int} {k : Nat} (hk : k < xs.length) (h : xs[k] = x) : hasI xs x = true := by
  unfold hasI
  subst h
  simp

set_option maxHeartbeats 1000000 in
theorem l1Has_any (v : Value) (xs : List Int) (F : List Nat) (x : Int) (w : World) (h : Ty.int.row false w v xs F) :
    Calls Tryz.prog 32 #[v, .int .i64 x] w fun e w' => e = .returned (.bool (hasI xs x)) ∧ w = w' := by
  obtain ⟨a, cap, rfl, hx1, hx2, _, hx3⟩ := row_int h
  go_enter Tryz.func32, Tryz.ntmps32
  go_wp2_with fail
  go_loopw [5] (fun i wr => ∃ k : Nat, k ≤ xs.length ∧ i = .int .i64 k ∧ Hid (hasI (xs.take k) x = false) ∧ w = wr) (fun i _ => xs.length - (intOf i).toNat)
  case atStart => exact ⟨0, Nat.zero_le _, rfl, by simp [Hid, hasI], rfl⟩
  case round =>
    obtain ⟨k, hk, rfl, HR, rfl⟩ := hrel
    by_cases hlt : k < xs.length
    · rcases hx3 with ⟨rfl, rfl⟩ | ⟨hxn, b, off, rfl, rfl, hxc⟩
      · exact absurd hlt (by simp)
      have k0 := (hxc k hlt).1
      by_cases he : xs[k] = x
      · have HN : Hid (hasI xs x = true) := hasI_yes hlt he
        have he' : (xs[k] == x) = true := by simpa using he
        clear he HR
        go_wp2_with fail
        go_ret
        exact ⟨ret_bool HN.out.symm, rfl⟩
      · have HN : Hid (hasI (xs.take (k + 1)) x = false) := hasI_no hlt HR.out he
        have he' : (xs[k] == x) = false := by simpa using he
        clear he HR
        go_wp2_with fail
        go_roundw
        case rel => exact ⟨k + 1, by omega, by go_num, HN, by first | rfl | trivial⟩
        case measure => simp [intOf]; omega
    · obtain rfl : k = xs.length := by omega
      have HN := HR.out
      rw [List.take_length] at HN
      replace HN := Lib.hid HN
      clear HR
      go_wp2_with fail
      go_ret
      exact ⟨ret_bool HN.out.symm, rfl⟩

set_option maxHeartbeats 1000000 in
theorem l2Has_any (v : Value) (xs : List Int) (F : List Nat) (x : Int) (w : World) (h : Ty.int.row false w v xs F) :
    Calls Tryz.prog 89 #[v, .int .i64 x] w fun e w' => e = .returned (.bool (hasI xs x)) ∧ w = w' := by
  go_enter Tryz.func89, Tryz.ntmps89
  go_wp2_with (go_at_call 32; refine (l1Has_any _ _ _ _ _ h).mono ?_; rintro e w1 ⟨rfl, rfl⟩)
  go_ret
  exact ⟨rfl, rfl⟩
theorem l2Has_at {v : Value} {xs : List Int} {F : List Nat} {x : Int} {w : World} {q : Bool} (h : Ty.int.row false w v xs F) (hq : hasI xs x = q) :
    Calls Tryz.prog 89 #[v, .int .i64 x] w fun e w' => e = .returned (.bool q) ∧ w = w' := hq ▸ l2Has_any v xs F x w h
end Go.Proofs.YtnfjgebfmnpkbaaGreat

/- Contracts: clauses in the reference: copying, comparing, finding the place. -/
namespace Go.Proofs.YtnfjgebfmnpkbaaGreat
open Go.RowKit

/-- An own row of numbers. -/
def OwnsPost (w : World) (xs : List Int) (e : Ending) (w' : World) : Prop := ∃ v, e = .returned v ∧ w'.ownsRow w.heap.size 3 1 v xs.length (xs.map (.int .i64)) ∧ Below w.heap.size w w'
theorem ints_one (xs : List Int) : ∀ u ∈ xs.map (Value.int .i64), u.oneCell' = true := by
  intro u hu
  obtain ⟨x, _, rfl⟩ := List.mem_map.1 hu
  rfl

set_option maxHeartbeats 1000000 in
theorem l1Own_any (v : Value) (xs : List Int) (F : List Nat) (w : World) (h : Ty.int.row false w v xs F) (hl : xs.length ≤ 10000000000) :
    Calls Tryz.prog 88 #[v] w (OwnsPost w xs) := by
  obtain ⟨i0, hi, hz0, hz1, hz2⟩ := info_parts infoInt
  have S0 := (Sp.start w).own_made 3 1
  have hB0 := S0.below
  obtain ⟨A, c, rfl, hsrc⟩ := row_src_int (Ty.row_grow h hB0)
  replace S0 := Lib.hid S0
  go_enter Tryz.func88, Tryz.ntmps88
  go_wp2_with (at_builtin; refine wpList_append_src rfl _ _ rfl Tryz.underlying33 hi hz0 hz1 hz2 rfl (by decide) _ _ _ rfl (S0.out.own (i := 0) rfl) A xs.length c _ rfl hsrc (ints_one xs) ?c3 ?c4 ?_)
  case c3 => unfold maxLen; omega
  case c4 => omega
  intro v' w1 hown hg hat
  have S1 := S0.out.own_push (i := 0) rfl (bb _) hown hg (by simpa using hat)
  have ho := S1.owns_end (i := 0) rfl
  have hB := S1.below
  obtain ⟨a, c', rfl⟩ := owns_form ho
  replace ho := Lib.hid ho
  clear hown hg hat S1 S0
  go_wp2_with fail
  go_ret
  exact ⟨_, rfl, ho.out, hB⟩

/- left out: the seat has no spec.l1Same -/

/-- The key by which literals are ordered. -/
def keyL (l : Int) : Int := if l < 0 then -2 * l + 1 else 2 * l
/-- Literals that are not too great. -/
def Mild (xs : List Int) : Prop := ∀ x ∈ xs, -1000000 ≤ x ∧ x ≤ 1000000
/-- The first literals that differ decide. -/
def lexB : List Int → List Int → Bool
  | x :: xs, y :: ys => if x = y then lexB xs ys else decide (keyL x < keyL y)
  | _, _ => false
/-- The order of clauses. -/
def beforeB (a b : List Int) : Bool := if a.length = b.length then lexB a b else decide (a.length < b.length)
theorem lexB_same : ∀ (p a b : List Int), lexB (p ++ a) (p ++ b) = lexB a b
  | [], _, _ => rfl
  | x :: p, a, b => by rw [List.cons_append, List.cons_append, lexB, if_pos rfl, lexB_same p a b]
theorem lexB_at {a b : List Int} {k : Nat} (ha : k < a.length) (hb : k < b.length) (h : a.take k = b.take k) : lexB a b = if a[k] = b[k] then lexB (a.drop (k + 1)) (b.drop (k + 1)) else decide (keyL a[k] < keyL b[k]) := by
  conv => lhs; rw [← List.take_append_drop k a, ← List.take_append_drop k b, h, lexB_same, List.drop_eq_getElem_cons ha, List.drop_eq_getElem_cons hb, lexB]
theorem lexB_self (a : List Int) : lexB a a = false := by
  have := lexB_same a [] []
  simpa [lexB] using this
/- left out: the seat has no spec.l2Key -/

/- left out: the seat has no spec.l2Before -/
end Go.Proofs.YtnfjgebfmnpkbaaGreat

/- Contracts: clauses in the reference: a literal put in, a variable left out, resolvents. -/
namespace Go.Proofs.YtnfjgebfmnpkbaaGreat
open Go.RowKit

/-- A clause without a variable. -/
def withoutB (c : List Int) (v : Int) : List Int := c.filter (fun l => !(absV l == v))
theorem without_step {c : List Int} {v : Int} {k : Nat} {q : Bool} (hk : k < c.length) (h : (absV c[k] == v) = q) : withoutB (c.take (k + 1)) v = withoutB (c.take k) v ++ (if q then [] else [c[k]]) := by
  unfold withoutB
  rw [List.take_succ_eq_append_getElem hk, List.filter_append]
  cases q <;> simp [h]
theorem without_len (c : List Int) (v : Int) (k : Nat) : (withoutB (c.take k) v).length ≤ k := Nat.le_trans (List.length_filter_le _ _) (by rw [List.length_take]; omega)

/- left out: the seat has no spec.l2Without -/

theorem row_int_take {wr : Bool} {w : World} {a : Option Addr} {n cap : Nat} {xs : List Int} {F : List Nat} {k : Nat} (h : Ty.int.row wr w (.slice a n cap) xs F) (hk : k ≤ xs.length) :
    ∃ F', Ty.int.row wr w (.slice a k cap) (xs.take k) F' ∧ ∀ b ∈ F', b ∈ F := by
  obtain ⟨a', cap', e, h1, h2, hI, h3⟩ := row_int h
  simp only [Value.slice.injEq] at e
  obtain ⟨rfl, rfl, rfl⟩ := e
  have hl : (xs.take k).length = k := by rw [List.length_take]; omega
  by_cases h0 : k = 0
  · subst h0
    exact ⟨[], Ty.row_nil _ _ _ _ _ h2, by simp⟩
  · rcases h3 with ⟨rfl, rfl⟩ | ⟨hne, b, off, rfl, rfl, hc⟩
    · simp at hk; omega
    · refine ⟨[b], ?_, fun _ h => h⟩
      have := row_int_mk (wr := wr) (w := w) (b := b) (off := off) (cap := cap) (xs := xs.take k) (fun x hx => hI x (List.mem_of_mem_take hx)) (by omega) h2 (by intro e; rw [e] at hl; simp at hl; omega) (fun j hj => by
        rw [List.getElem_take]
        exact hc j (by omega))
      rw [hl] at this
      exact this
/-- The rest of a row, as a source. -/
theorem row_int_from {wr : Bool} {w : World} {a : Option Addr} {n cap : Nat} {xs : List Int} {F : List Nat} {k : Nat} (h : Ty.int.row wr w (.slice a n cap) xs F) (hk : k ≤ xs.length) :
    Src w (cutA a cap k 1) (xs.length - k) 1 ((xs.drop k).map (.int .i64)) := by
  obtain ⟨A, c, e, hs⟩ := row_src_int h
  obtain ⟨a', cap', e', h1, h2, hI, h3⟩ := row_int h
  simp only [Value.slice.injEq] at e e'
  obtain ⟨rfl, rfl, rfl⟩ := e
  obtain ⟨rfl, _, rfl⟩ := e'
  rcases h3 with ⟨rfl, rfl⟩ | ⟨hne, b, off, rfl, rfl, hc⟩
  · exact .inl ⟨by simp, by simp⟩
  · have := hs.from hk h1
    rw [Nat.mul_one] at this
    rw [List.map_drop]
    exact this

/-- Where a literal goes. -/
def litAt (c : List Int) (l : Int) : Nat := (c.takeWhile (fun x => decide (absV x < absV l))).length
/-- A clause with a literal put in. -/
def putB (c : List Int) (l : Int) : List Int := c.take (litAt c l) ++ l :: c.drop (litAt c l)
theorem litAt_end {c : List Int} {l : Int} {k : Nat} (h : (c.take k).all (fun x => decide (absV x < absV l)) = true) (hk : k ≤ c.length) (he : k = c.length ∨ ∃ h : k < c.length, ¬ absV c[k] < absV l) : litAt c l = k := by
  unfold litAt
  have h1 : c.takeWhile (fun x => decide (absV x < absV l)) = c.take k := by
    conv => lhs; rw [← List.take_append_drop k c]
    rw [List.takeWhile_append_of_pos (by simpa [List.all_eq_true] using h)]
    rcases he with rfl | ⟨hlt, hn⟩
    · simp
    · rw [List.drop_eq_getElem_cons hlt, List.takeWhile_cons, if_neg (by simpa using hn), List.append_nil]
  rw [h1, List.length_take]; omega
theorem put_len (c : List Int) (l : Int) : (putB c l).length = c.length + 1 := by
  unfold putB
  have : litAt c l ≤ c.length := by unfold litAt; exact (List.takeWhile_sublist _).length_le
  simp; omega

set_option maxRecDepth 100000 in
set_option maxHeartbeats 4000000 in
theorem l2Put_any (u : Value) (c : List Int) (l : Int) (F : List Nat) (w : World) (hx : Ty.int.row false w u c F) (hc : c.length ≤ 1000000000) :
    Calls Tryz.prog 90 #[u, .int .i64 l] w (OwnsPost w (putB c l)) := by
  obtain ⟨i0, hi, hz0, hz1, hz2⟩ := info_parts infoInt
  obtain ⟨ad, cap, rfl, hx1, hx2, hxI, hx3⟩ := row_int hx
  go_enter Tryz.func90, Tryz.ntmps90
  go_wp2_with fail
  go_loop [5] (fun i => ∃ k : Nat, k ≤ c.length ∧ i = .int .i64 k ∧ Hid ((c.take k).all (fun x => decide (absV x < absV l)) = true)) (fun i => c.length - (intOf i).toNat)
  case atStart => exact ⟨0, Nat.zero_le _, rfl, by simp [Hid]⟩
  case round =>
    obtain ⟨k, hk, rfl, HR⟩ := hrel
    by_cases hgo : ∃ h : k < c.length, absV c[k] < absV l
    · obtain ⟨hlt, hgo⟩ := hgo
      rcases hx3 with ⟨rfl, rfl⟩ | ⟨hxn, b, off, rfl, rfl, hxc⟩
      · exact absurd hlt (by simp)
      have k0 := (hxc k hlt).1
      have HN : Hid ((c.take (k + 1)).all (fun x => decide (absV x < absV l)) = true) := by
        unfold Hid
        rw [List.take_succ_eq_append_getElem hlt, List.all_append, HR.out]
        simp [hgo]
      have hd : decide (absV c[k] < absV l) = true := by simpa using hgo
      clear HR
      go_wp2_with (go_at_call 105; (with_reducible refine (l2Var_any _ _).mono ?_); rintro e w1 ⟨rfl, rfl⟩)
      go_round
      case rel => exact ⟨k + 1, by omega, by go_num, HN⟩
      case measure => simp [intOf]; omega
    · have hat : Hid (litAt c l = k) := by
        refine litAt_end HR.out hk ?_
        by_cases h : k < c.length
        · exact .inr ⟨h, fun h2 => hgo ⟨h, h2⟩⟩
        · exact .inl (by omega)
      have hto := row_int_take (k := k) (Ty.row_grow hx (bdr (bb w))) hk
      obtain ⟨F', hto, _⟩ := hto
      have hfr := Lib.hid (row_int_from (k := k) hx hk)
      have hP : Hid (putB c l = c.take k ++ l :: c.drop k) := by unfold Hid putB; rw [hat.out]
      have hlk : (c.take k).length = k := by rw [List.length_take]; omega
      replace hto := Lib.hid hto
      have h9 : c.length - k ≤ c.length := by omega
      by_cases hlt : k < c.length
      · rcases hx3 with ⟨rfl, rfl⟩ | ⟨hxn, b, off, rfl, rfl, hxc⟩
        · exact absurd hlt (by simp)
        have k0 := (hxc k hlt).1
        have hd : decide (absV c[k] < absV l) = false := by simpa using fun h2 => hgo ⟨hlt, h2⟩
        clear hgo HR hat
        go_wp2_with (go_at_call 105; (with_reducible refine (l2Var_any _ _).mono ?_); rintro e w1 ⟨rfl, rfl⟩)
        refine wp_region_tail (S := (fun _ => True)) 10 (by kernel_rfl) (by kernel_rfl) ?_ ?_
        · trivial
        intro hS
        (refine walkT_take (i := 0) (v := ?_) rfl (by kernel_rfl) (by decide) (by kernel_rfl) (by kernel_rfl) (fun _ _ _ h => h) (Or.inl ⟨by rfl, ?_⟩) (by assumption) ?_; rotate_left; (focus (intro w hSw; (try dsimp only at hSw); go_simp; (try with_reducible rfl); done)); (try simp only [put_rules]))
        (refine walkT_take (i := 1) (v := ?_) rfl (by kernel_rfl) (by decide) (by kernel_rfl) (by kernel_rfl) (fun _ _ _ h => h) (Or.inl ⟨by rfl, ?_⟩) (by assumption) ?_; rotate_left; (focus (intro w hSw; (try dsimp only at hSw); go_simp; (try with_reducible rfl); done)); (try simp only [put_rules]))
        (refine walkT_take (i := 2) (v := .slice _ k cap) rfl (by kernel_rfl) (by decide) (by kernel_rfl) (by kernel_rfl) (fun _ _ _ h => h) (Or.inl ⟨by rfl, fun _ _ => exec_slice_to rfl rfl rfl Tryz.underlying33 hi (by omega)⟩) (by assumption) ?_; (try simp only [put_rules]))
        (refine walkT_take (i := 4) (v := ?_) rfl (by kernel_rfl) (by decide) (by kernel_rfl) (by kernel_rfl) (fun _ _ _ h => h) (Or.inl ⟨by rfl, ?_⟩) (by assumption) ?_; rotate_left; (focus (intro w hSw; (try dsimp only at hSw); go_simp; (try with_reducible rfl); done)); (try simp only [put_rules]))
        (refine walkT_take (i := 7) (v := ?_) rfl (by kernel_rfl) (by decide) (by kernel_rfl) (by kernel_rfl) (fun _ _ _ h => h) (Or.inl ⟨by rfl, ?_⟩) (by assumption) ?_; rotate_left; (focus (intro w hSw; (try dsimp only at hSw); go_simp; (try with_reducible rfl); done)); (try simp only [put_rules]))
        (refine walkT_take (i := 8) (v := ?_) rfl (by kernel_rfl) (by decide) (by kernel_rfl) (by kernel_rfl) (fun _ _ _ h => h) (Or.inl ⟨by rfl, ?_⟩) (by assumption) ?_; rotate_left; (focus (intro w hSw; (try dsimp only at hSw); go_simp; (try with_reducible rfl); done)); (try simp only [put_rules]))
        (refine walkT_take (i := 9) (v := .slice (cutA _ cap k 1) (c.length - k) (cap - k)) rfl (by kernel_rfl) (by decide) (by kernel_rfl) (by kernel_rfl) (fun _ _ _ h => h) (Or.inl ⟨by rfl, fun _ _ => exec_slice_from rfl rfl rfl Tryz.underlying33 hi hz1 (by omega)⟩) (by assumption) ?_; (try simp only [put_rules]))
        (refine walkT_ready (rs := [3, 5]) (by kernel_rfl) (by simp) (by decide) ?_; refine AllT.cons rfl (fun K hK => ?_) (AllT.cons rfl (fun K hK => ?_) AllT.nil))
        · go_simp
          go_at_call 88
          refine (l1Own_any _ (c.take k) F' _ hto.out (by omega)).mono ?_
          rintro e w1 ⟨v1, rfl, ho1, hb1⟩
          rw [hlk] at ho1
          obtain ⟨a1, c1, rfl⟩ := owns_form ho1
          have S1 := Lib.hid ((Sp.start w).drew.own_call hb1 ho1)
          clear ho1
          go_wp2_with fail
          refine hK.out _ _ trivial (fun _ => ?_)
          clear hK
          (try simp only [put_rules])
          (refine walkT_ready (rs := [5]) (by kernel_rfl) (by simp) (by decide) ?_; refine AllT.cons rfl (fun K hK => ?_) AllT.nil)
          go_simp
          refine hK.out _ _ trivial (fun _ => ?_)
          clear hK
          (try simp only [put_rules])
          (refine walkT_ready (rs := [6]) (by kernel_rfl) (by simp) (by decide) ?_; refine AllT.cons rfl (fun K hK => ?_) AllT.nil)
          have S2 := Lib.hid (S1.out.alloc (.cells #[.int .i64 l] 3))
          (refine step_append_src rfl _ _ rfl Tryz.underlying33 hi hz0 hz1 hz2 rfl (by decide) _ k _ rfl (S2.out.own (i := 0) rfl) (some ⟨w1.heap.size, 0, none⟩) 1 1 [.int .i64 l] rfl (Src.one (by simp [go_sem])) (by simp [Value.oneCell']) (by unfold maxLen; omega) (by omega) ?_; intro v2 w2 hown2 hg2 hat2)
          have S3 := Lib.hid (S2.out.own_push (i := 0) rfl (bb _) hown2 hg2 hat2)
          obtain ⟨a2, c2, rfl⟩ := owns_form hown2
          clear hown2 hg2 hat2 S2 S1
          refine hK.out _ _ trivial (fun _ => ?_)
          clear hK
          (try simp only [put_rules])
          (refine walkT_done (by kernel_rfl) ?_)
          simp only [List.drop_succ_cons, List.drop_zero]
          have hfr2 := hfr.out.grow S3.out.below
          (refine wpList_append_src rfl _ _ rfl Tryz.underlying33 hi hz0 hz1 hz2 rfl (by decide) _ (k + 1) _ rfl (S3.out.own (i := 0) rfl) _ (c.length - k) _ _ rfl hfr2 (ints_one _) (by unfold maxLen; omega) (by omega) ?_; intro v5 w5 hown5 hg5 hat5)
          have S5 := S3.out.own_push (i := 0) rfl (bb _) hown5 hg5 hat5
          have ho5 := S5.owns_end (i := 0) rfl
          have hB5 := S5.below
          obtain ⟨a5, c5, rfl⟩ := owns_form ho5
          have hf : OwnsPost w (putB c l) (.returned (.slice a5 (k + 1 + (c.length - k)) c5)) w5 := by
            refine ⟨_, rfl, ?_, hB5⟩
            rw [hP.out]
            have e : (c.take k ++ l :: c.drop k).length = k + 1 + (c.length - k) := by rw [List.length_append, List.length_cons, List.length_drop, hlk]; omega
            rw [e]
            simpa using ho5
          replace hf := Lib.hid hf
          clear S5 ho5 hown5 hg5 hat5 S3 hfr2
          go_wp2_with fail
          go_ret
          exact hf.out
        · go_simp
          have S0 := Lib.hid ((Sp.start w).drew.alloc_box #[.int .i64 l] 3)
          refine hK.out _ _ trivial (fun _ => ?_)
          clear hK
          (try simp only [put_rules])
          (refine walkT_ready (rs := [3]) (by kernel_rfl) (by simp) (by decide) ?_; refine AllT.cons rfl (fun K hK => ?_) AllT.nil)
          go_simp
          go_at_call 88
          refine (l1Own_any _ (c.take k) F' _ (Ty.row_grow hto.out (bal (bb _) _)) (by omega)).mono ?_
          rintro e w1 ⟨v1, rfl, ho1, hb1⟩
          rw [hlk] at ho1
          obtain ⟨a1, c1, rfl⟩ := owns_form ho1
          have S1 := Lib.hid (S0.out.own_call hb1 ho1)
          have k9 : w1.cell? ⟨w.heap.size, 0, none⟩ = some (.int .i64 l) := S1.out.cell (i := 1) rfl (o := 0) rfl
          clear ho1 S0
          go_wp2_with fail
          refine hK.out _ _ trivial (fun _ => ?_)
          clear hK
          (try simp only [put_rules])
          (refine walkT_ready (rs := [6]) (by kernel_rfl) (by simp) (by decide) ?_; refine AllT.cons rfl (fun K hK => ?_) AllT.nil)
          (refine step_append_src rfl _ _ rfl Tryz.underlying33 hi hz0 hz1 hz2 rfl (by decide) _ k _ rfl (S1.out.own (i := 0) rfl) (some ⟨w.heap.size, 0, none⟩) 1 1 [.int .i64 l] rfl (Src.one k9) (by simp [Value.oneCell']) (by unfold maxLen; omega) (by omega) ?_; intro v2 w2 hown2 hg2 hat2)
          have S3 := Lib.hid (S1.out.own_push (i := 0) rfl (bb _) hown2 hg2 hat2)
          obtain ⟨a2, c2, rfl⟩ := owns_form hown2
          clear hown2 hg2 hat2 S1 k9
          refine hK.out _ _ trivial (fun _ => ?_)
          clear hK
          (try simp only [put_rules])
          (refine walkT_done (by kernel_rfl) ?_)
          simp only [List.drop_succ_cons, List.drop_zero]
          have hfr2 := hfr.out.grow S3.out.below
          (refine wpList_append_src rfl _ _ rfl Tryz.underlying33 hi hz0 hz1 hz2 rfl (by decide) _ (k + 1) _ rfl (S3.out.own (i := 0) rfl) _ (c.length - k) _ _ rfl hfr2 (ints_one _) (by unfold maxLen; omega) (by omega) ?_; intro v5 w5 hown5 hg5 hat5)
          have S5 := S3.out.own_push (i := 0) rfl (bb _) hown5 hg5 hat5
          have ho5 := S5.owns_end (i := 0) rfl
          have hB5 := S5.below
          obtain ⟨a5, c5, rfl⟩ := owns_form ho5
          have hf : OwnsPost w (putB c l) (.returned (.slice a5 (k + 1 + (c.length - k)) c5)) w5 := by
            refine ⟨_, rfl, ?_, hB5⟩
            rw [hP.out]
            have e : (c.take k ++ l :: c.drop k).length = k + 1 + (c.length - k) := by rw [List.length_append, List.length_cons, List.length_drop, hlk]; omega
            rw [e]
            simpa using ho5
          replace hf := Lib.hid hf
          clear S5 ho5 hown5 hg5 hat5 S3 hfr2
          go_wp2_with fail
          go_ret
          exact hf.out
      · clear hgo HR hat
        go_wp2_with fail
        refine wp_region_tail (S := (fun _ => True)) 10 (by kernel_rfl) (by kernel_rfl) ?_ ?_
        · trivial
        intro hS
        (refine walkT_take (i := 0) (v := ?_) rfl (by kernel_rfl) (by decide) (by kernel_rfl) (by kernel_rfl) (fun _ _ _ h => h) (Or.inl ⟨by rfl, ?_⟩) (by assumption) ?_; rotate_left; (focus (intro w hSw; (try dsimp only at hSw); go_simp; (try with_reducible rfl); done)); (try simp only [put_rules]))
        (refine walkT_take (i := 1) (v := ?_) rfl (by kernel_rfl) (by decide) (by kernel_rfl) (by kernel_rfl) (fun _ _ _ h => h) (Or.inl ⟨by rfl, ?_⟩) (by assumption) ?_; rotate_left; (focus (intro w hSw; (try dsimp only at hSw); go_simp; (try with_reducible rfl); done)); (try simp only [put_rules]))
        (refine walkT_take (i := 2) (v := .slice _ k cap) rfl (by kernel_rfl) (by decide) (by kernel_rfl) (by kernel_rfl) (fun _ _ _ h => h) (Or.inl ⟨by rfl, fun _ _ => exec_slice_to rfl rfl rfl Tryz.underlying33 hi (by omega)⟩) (by assumption) ?_; (try simp only [put_rules]))
        (refine walkT_take (i := 4) (v := ?_) rfl (by kernel_rfl) (by decide) (by kernel_rfl) (by kernel_rfl) (fun _ _ _ h => h) (Or.inl ⟨by rfl, ?_⟩) (by assumption) ?_; rotate_left; (focus (intro w hSw; (try dsimp only at hSw); go_simp; (try with_reducible rfl); done)); (try simp only [put_rules]))
        (refine walkT_take (i := 7) (v := ?_) rfl (by kernel_rfl) (by decide) (by kernel_rfl) (by kernel_rfl) (fun _ _ _ h => h) (Or.inl ⟨by rfl, ?_⟩) (by assumption) ?_; rotate_left; (focus (intro w hSw; (try dsimp only at hSw); go_simp; (try with_reducible rfl); done)); (try simp only [put_rules]))
        (refine walkT_take (i := 8) (v := ?_) rfl (by kernel_rfl) (by decide) (by kernel_rfl) (by kernel_rfl) (fun _ _ _ h => h) (Or.inl ⟨by rfl, ?_⟩) (by assumption) ?_; rotate_left; (focus (intro w hSw; (try dsimp only at hSw); go_simp; (try with_reducible rfl); done)); (try simp only [put_rules]))
        (refine walkT_take (i := 9) (v := .slice (cutA _ cap k 1) (c.length - k) (cap - k)) rfl (by kernel_rfl) (by decide) (by kernel_rfl) (by kernel_rfl) (fun _ _ _ h => h) (Or.inl ⟨by rfl, fun _ _ => exec_slice_from rfl rfl rfl Tryz.underlying33 hi hz1 (by omega)⟩) (by assumption) ?_; (try simp only [put_rules]))
        (refine walkT_ready (rs := [3, 5]) (by kernel_rfl) (by simp) (by decide) ?_; refine AllT.cons rfl (fun K hK => ?_) (AllT.cons rfl (fun K hK => ?_) AllT.nil))
        · go_simp
          go_at_call 88
          refine (l1Own_any _ (c.take k) F' _ hto.out (by omega)).mono ?_
          rintro e w1 ⟨v1, rfl, ho1, hb1⟩
          rw [hlk] at ho1
          obtain ⟨a1, c1, rfl⟩ := owns_form ho1
          have S1 := Lib.hid ((Sp.start w).drew.own_call hb1 ho1)
          clear ho1
          go_wp2_with fail
          refine hK.out _ _ trivial (fun _ => ?_)
          clear hK
          (try simp only [put_rules])
          (refine walkT_ready (rs := [5]) (by kernel_rfl) (by simp) (by decide) ?_; refine AllT.cons rfl (fun K hK => ?_) AllT.nil)
          go_simp
          refine hK.out _ _ trivial (fun _ => ?_)
          clear hK
          (try simp only [put_rules])
          (refine walkT_ready (rs := [6]) (by kernel_rfl) (by simp) (by decide) ?_; refine AllT.cons rfl (fun K hK => ?_) AllT.nil)
          have S2 := Lib.hid (S1.out.alloc (.cells #[.int .i64 l] 3))
          (refine step_append_src rfl _ _ rfl Tryz.underlying33 hi hz0 hz1 hz2 rfl (by decide) _ k _ rfl (S2.out.own (i := 0) rfl) (some ⟨w1.heap.size, 0, none⟩) 1 1 [.int .i64 l] rfl (Src.one (by simp [go_sem])) (by simp [Value.oneCell']) (by unfold maxLen; omega) (by omega) ?_; intro v2 w2 hown2 hg2 hat2)
          have S3 := Lib.hid (S2.out.own_push (i := 0) rfl (bb _) hown2 hg2 hat2)
          obtain ⟨a2, c2, rfl⟩ := owns_form hown2
          clear hown2 hg2 hat2 S2 S1
          refine hK.out _ _ trivial (fun _ => ?_)
          clear hK
          (try simp only [put_rules])
          (refine walkT_done (by kernel_rfl) ?_)
          simp only [List.drop_succ_cons, List.drop_zero]
          have hfr2 := hfr.out.grow S3.out.below
          (refine wpList_append_src rfl _ _ rfl Tryz.underlying33 hi hz0 hz1 hz2 rfl (by decide) _ (k + 1) _ rfl (S3.out.own (i := 0) rfl) _ (c.length - k) _ _ rfl hfr2 (ints_one _) (by unfold maxLen; omega) (by omega) ?_; intro v5 w5 hown5 hg5 hat5)
          have S5 := S3.out.own_push (i := 0) rfl (bb _) hown5 hg5 hat5
          have ho5 := S5.owns_end (i := 0) rfl
          have hB5 := S5.below
          obtain ⟨a5, c5, rfl⟩ := owns_form ho5
          have hf : OwnsPost w (putB c l) (.returned (.slice a5 (k + 1 + (c.length - k)) c5)) w5 := by
            refine ⟨_, rfl, ?_, hB5⟩
            rw [hP.out]
            have e : (c.take k ++ l :: c.drop k).length = k + 1 + (c.length - k) := by rw [List.length_append, List.length_cons, List.length_drop, hlk]; omega
            rw [e]
            simpa using ho5
          replace hf := Lib.hid hf
          clear S5 ho5 hown5 hg5 hat5 S3 hfr2
          go_wp2_with fail
          go_ret
          exact hf.out
        · go_simp
          have S0 := Lib.hid ((Sp.start w).drew.alloc_box #[.int .i64 l] 3)
          refine hK.out _ _ trivial (fun _ => ?_)
          clear hK
          (try simp only [put_rules])
          (refine walkT_ready (rs := [3]) (by kernel_rfl) (by simp) (by decide) ?_; refine AllT.cons rfl (fun K hK => ?_) AllT.nil)
          go_simp
          go_at_call 88
          refine (l1Own_any _ (c.take k) F' _ (Ty.row_grow hto.out (bal (bb _) _)) (by omega)).mono ?_
          rintro e w1 ⟨v1, rfl, ho1, hb1⟩
          rw [hlk] at ho1
          obtain ⟨a1, c1, rfl⟩ := owns_form ho1
          have S1 := Lib.hid (S0.out.own_call hb1 ho1)
          have k9 : w1.cell? ⟨w.heap.size, 0, none⟩ = some (.int .i64 l) := S1.out.cell (i := 1) rfl (o := 0) rfl
          clear ho1 S0
          go_wp2_with fail
          refine hK.out _ _ trivial (fun _ => ?_)
          clear hK
          (try simp only [put_rules])
          (refine walkT_ready (rs := [6]) (by kernel_rfl) (by simp) (by decide) ?_; refine AllT.cons rfl (fun K hK => ?_) AllT.nil)
          (refine step_append_src rfl _ _ rfl Tryz.underlying33 hi hz0 hz1 hz2 rfl (by decide) _ k _ rfl (S1.out.own (i := 0) rfl) (some ⟨w.heap.size, 0, none⟩) 1 1 [.int .i64 l] rfl (Src.one k9) (by simp [Value.oneCell']) (by unfold maxLen; omega) (by omega) ?_; intro v2 w2 hown2 hg2 hat2)
          have S3 := Lib.hid (S1.out.own_push (i := 0) rfl (bb _) hown2 hg2 hat2)
          obtain ⟨a2, c2, rfl⟩ := owns_form hown2
          clear hown2 hg2 hat2 S1 k9
          refine hK.out _ _ trivial (fun _ => ?_)
          clear hK
          (try simp only [put_rules])
          (refine walkT_done (by kernel_rfl) ?_)
          simp only [List.drop_succ_cons, List.drop_zero]
          have hfr2 := hfr.out.grow S3.out.below
          (refine wpList_append_src rfl _ _ rfl Tryz.underlying33 hi hz0 hz1 hz2 rfl (by decide) _ (k + 1) _ rfl (S3.out.own (i := 0) rfl) _ (c.length - k) _ _ rfl hfr2 (ints_one _) (by unfold maxLen; omega) (by omega) ?_; intro v5 w5 hown5 hg5 hat5)
          have S5 := S3.out.own_push (i := 0) rfl (bb _) hown5 hg5 hat5
          have ho5 := S5.owns_end (i := 0) rfl
          have hB5 := S5.below
          obtain ⟨a5, c5, rfl⟩ := owns_form ho5
          have hf : OwnsPost w (putB c l) (.returned (.slice a5 (k + 1 + (c.length - k)) c5)) w5 := by
            refine ⟨_, rfl, ?_, hB5⟩
            rw [hP.out]
            have e : (c.take k ++ l :: c.drop k).length = k + 1 + (c.length - k) := by rw [List.length_append, List.length_cons, List.length_drop, hlk]; omega
            rw [e]
            simpa using ho5
          replace hf := Lib.hid hf
          clear S5 ho5 hown5 hg5 hat5 S3 hfr2
          go_wp2_with fail
          go_ret
          exact hf.out
end Go.Proofs.YtnfjgebfmnpkbaaGreat

/- Contracts: clauses that are drawn. -/
namespace Go.Proofs.YtnfjgebfmnpkbaaGreat
open Go.RowKit

theorem own_row {w : World} {B : Nat} {e : TypeId} {v : Value} {cs : List Int} (h : w.ownsRow B e 1 v cs.length (cs.map (.int .i64))) (hok : ∀ c ∈ cs, I64 c) : ∃ F, Ty.int.row true w v cs F ∧ F.Nodup ∧ ∀ b ∈ F, B ≤ b := by
  obtain ⟨F, hr, hF, hB⟩ := Ty.row_of_owns (T := Ty.int) h rfl (by decide) (Ty.all_int hok)
  refine ⟨F, hr, ?_, ?_⟩
  · rcases hF with rfl | ⟨g, _, _, _, rfl⟩ <;> simp
  · rcases hF with rfl | ⟨g, hg, _, _, rfl⟩
    · simp
    · intro b hb
      simp at hb
      omega
/-- Numbers that lie within bounds. -/
def Within (m : Int) (c : List Int) : Prop := ∀ x ∈ c, -m ≤ x ∧ x ≤ m
theorem Within.i64 {m : Int} {c : List Int} (h : Within m c) (hm : m ≤ 1000000) : ∀ x ∈ c, I64 x := fun x hx => by
  have := h x hx; unfold I64; omega
theorem within_without {m : Int} {c : List Int} (h : Within m c) (v : Int) : Within m (withoutB c v) := fun x hx => h x (List.mem_filter.1 hx).1
theorem within_put {m : Int} {c : List Int} {l : Int} (h : Within m c) (hl : -m ≤ l ∧ l ≤ m) : Within m (putB c l) := fun x hx => by
  unfold putB at hx
  rcases List.mem_append.1 hx with hx | hx
  · exact h x (List.mem_of_mem_take hx)
  · rcases List.mem_cons.1 hx with rfl | hx
    · exact hl
    · exact h x (List.mem_of_mem_drop hx)
/-- A drawn row of numbers. -/
def RowPost (n : Nat) (R : List Int → Prop) (A g : Nat) (ca : Option Addr) (cl cc : Nat) (w : World) (e : Ending) (w' : World) : Prop :=
  ∃ v c, e = .returned v ∧ w'.ownsRow w.heap.size 3 1 v c.length (c.map (.int .i64)) ∧ c.length ≤ n ∧ R c ∧ CurIs A g ca cl cc w' ∧ Chg [g] w w'

/- left out: the seat has no (*loop.example/g01080/spec.l1Cur).clause -/
end Go.Proofs.YtnfjgebfmnpkbaaGreat

/- Contracts: counted and listed models, and implied clauses, of a Cnf in the reference. -/
namespace Go.Proofs.YtnfjgebfmnpkbaaGreat
open Go.RowKit

/-- Numbers that are told, and whether they are. -/
def IAns (w : World) (ok : Bool) (zs : List Int) (e : Ending) (w' : World) : Prop :=
  ∃ B cap, e = .returned (.tuple #[.slice B zs.length cap, .bool ok]) ∧ IntsAt w' B zs ∧ Below w.heap.size w w'
def allN (p : Nat → Bool) (k : Nat) : List Int := ((List.range k).filter p).map fun (m : Nat) => (m : Int)
theorem allN_no {p : Nat → Bool} {k : Nat} (h : p k = false) : allN p (k + 1) = allN p k := by simp [allN, List.range_succ, List.filter_append, h]
theorem allN_yes {p : Nat → Bool} {k : Nat} (h : p k = true) : allN p (k + 1) = allN p k ++ [(k : Int)] := by simp [allN, List.range_succ, List.filter_append, h]
theorem allN_len (p : Nat → Bool) (k : Nat) : (allN p k).length = cntP p k := by simp [allN, cntP]
theorem allN_ok (p : Nat → Bool) {k : Nat} (hk : k ≤ 4096) : ∀ x ∈ allN p k, I64 x := by
  intro x hx
  unfold allN at hx
  rw [List.mem_map] at hx
  obtain ⟨m, hm, rfl⟩ := hx
  have := List.mem_range.1 (List.mem_filter.1 hm).1
  unfold I64; omega

/- left out: the seat has no spec.CountCnfModels -/

/- left out: the seat has no spec.AllModels -/
end Go.Proofs.YtnfjgebfmnpkbaaGreat

/- Contract: an implied clause of a Cnf in the reference. -/
namespace Go.Proofs.YtnfjgebfmnpkbaaGreat
open Go.RowKit

/-- A clause is true for all models. -/
def impB (n : Nat) (xss : List (List Int)) (d : List Int) : Bool := !((List.range (2 ^ n)).any fun b => !clT d b && modT xss b)
theorem ints_lone {w : World} {b : Nat} {z : Int} (h : w.cell? ⟨b, 0, none⟩ = some (.int .i64 z)) (hz : I64 z) : IntsAt w (some ⟨b, 0, none⟩) [z] :=
  ⟨fun j hj => by
    obtain rfl : j = 0 := by simpa using hj
    exact ⟨b, 0, rfl, h⟩, fun c hc => by
    obtain rfl : c = z := by simpa using hc
    exact hz⟩

/- left out: the seat has no spec.ImpliesClause -/
end Go.Proofs.YtnfjgebfmnpkbaaGreat

/- Contract: the backbone of a Cnf in the reference. -/
namespace Go.Proofs.YtnfjgebfmnpkbaaGreat
open Go.RowKit

/-- The literals of the first variables that are true for all models. -/
def boneTo (n : Nat) (xss : List (List Int)) : Nat → List Int
  | 0 => []
  | k + 1 => boneTo n xss k ++ ((if impB n xss [(k : Int) + 1] then [(k : Int) + 1] else []) ++ (if impB n xss [-((k : Int) + 1)] then [-((k : Int) + 1)] else []))
theorem bone_len (n : Nat) (xss : List (List Int)) : ∀ k, (boneTo n xss k).length ≤ 2 * k
  | 0 => by simp [boneTo]
  | k + 1 => by
    have := bone_len n xss k
    unfold boneTo
    rw [List.length_append, List.length_append]
    split <;> split <;> simp <;> omega
theorem bone_ok (n : Nat) (xss : List (List Int)) : ∀ k, k ≤ 1000 → ∀ x ∈ boneTo n xss k, I64 x
  | 0, _ => by simp [boneTo]
  | k + 1, h => by
    have := bone_ok n xss k (by omega)
    unfold boneTo
    intro x hx
    rcases List.mem_append.1 hx with hx | hx
    · exact this x hx
    · rcases List.mem_append.1 hx with hx | hx
      · split at hx
        · obtain rfl : x = (k : Int) + 1 := by simpa using hx
          unfold I64; omega
        · simp at hx
      · split at hx
        · obtain rfl : x = -((k : Int) + 1) := by simpa using hx
          unfold I64; omega
        · simp at hx
theorem cls_lone {z : Int} (h0 : z ≠ 0) (h1 : -1000 ≤ z) (h2 : z ≤ 1000) : ClS [z] := ⟨fun l hl => by
  obtain rfl : l = z := by simpa using hl
  exact ⟨h0, h1, h2⟩, by simp⟩

/- left out: the seat has no spec.BackboneOf -/
end Go.Proofs.YtnfjgebfmnpkbaaGreat

/- Plain facts on models, backbones and implied clauses. -/
namespace Go.Proofs.YtnfjgebfmnpkbaaGreat
open Go.RowKit

theorem bone_next (n : Nat) (xss : List (List Int)) (k : Nat) : boneTo n xss (k + 1) = boneTo n xss k ++ ((if impB n xss [(k : Int) + 1] then [(k : Int) + 1] else []) ++ (if impB n xss [-((k : Int) + 1)] then [-((k : Int) + 1)] else [])) := rfl
theorem bone_mem (n : Nat) (xss : List (List Int)) : ∀ (k : Nat) (x : Int), x ∈ boneTo n xss k ↔ (x ≠ 0 ∧ x.natAbs ≤ k ∧ impB n xss [x] = true)
  | 0, x => by
    simp only [boneTo, List.not_mem_nil, false_iff]
    omega
  | k + 1, x => by
    rw [bone_next, List.mem_append, List.mem_append, bone_mem n xss k x]
    have a1 : x ∈ (if impB n xss [(k : Int) + 1] then [(k : Int) + 1] else []) ↔ x = (k : Int) + 1 ∧ impB n xss [x] = true := by
      split
      · rename_i h
        rw [List.mem_singleton]
        exact ⟨fun e => ⟨e, by rw [e]; exact h⟩, fun e => e.1⟩
      · rename_i h
        simp only [List.not_mem_nil, false_iff]
        rintro ⟨rfl, h2⟩
        exact h h2
    have a2 : x ∈ (if impB n xss [-((k : Int) + 1)] then [-((k : Int) + 1)] else []) ↔ x = -((k : Int) + 1) ∧ impB n xss [x] = true := by
      split
      · rename_i h
        rw [List.mem_singleton]
        exact ⟨fun e => ⟨e, by rw [e]; exact h⟩, fun e => e.1⟩
      · rename_i h
        simp only [List.not_mem_nil, false_iff]
        rintro ⟨rfl, h2⟩
        exact h h2
    rw [a1, a2]
    constructor
    · rintro (⟨h1, h2, h3⟩ | ⟨h1, h3⟩ | ⟨h1, h3⟩)
      · exact ⟨h1, by omega, h3⟩
      · exact ⟨by omega, by omega, h3⟩
      · exact ⟨by omega, by omega, h3⟩
    · rintro ⟨h1, h2, h3⟩
      by_cases h : x.natAbs ≤ k
      · exact .inl ⟨h1, h, h3⟩
      · by_cases hx : x = (k : Int) + 1
        · exact .inr (.inl ⟨hx, h3⟩)
        · exact .inr (.inr ⟨by omega, h3⟩)
theorem bone_contains {n : Nat} {xss : List (List Int)} {x : Int} (h0 : x ≠ 0) (h1 : x.natAbs ≤ n) : (boneTo n xss n).contains x = impB n xss [x] := by
  rw [Bool.eq_iff_iff, List.contains_iff_mem, bone_mem]
  exact ⟨fun h => h.2.2, fun h => ⟨h0, h1, h⟩⟩
theorem cl_one (x : Int) (b : Nat) : clT [x] b = litT b x := by simp [clT]
theorem lit_pos (k b : Nat) : litT b ((k : Int) + 1) = b.testBit k := by
  unfold litT
  rw [show ((k : Int) + 1).natAbs - 1 = k by omega, decide_eq_true (by omega : (0 : Int) < (k : Int) + 1)]
  simp
theorem lit_neg (k b : Nat) : litT b (-((k : Int) + 1)) = !b.testBit k := by
  unfold litT
  rw [show (-((k : Int) + 1)).natAbs - 1 = k by omega, decide_eq_false (by omega : ¬ (0 : Int) < -((k : Int) + 1))]
  cases b.testBit k <;> rfl
/-- The models in their order. -/
def mods (p : Nat → Bool) (N : Nat) : List Nat := (List.range N).filter p
theorem allN_eq (p : Nat → Bool) (N : Nat) : allN p N = (mods p N).map fun (m : Nat) => (m : Int) := rfl
theorem imp_mods (n : Nat) (xss : List (List Int)) (d : List Int) : impB n xss d = (mods (modT xss) (2 ^ n)).all (clT d) := by
  rw [Bool.eq_iff_iff]
  unfold impB mods
  rw [Bool.not_eq_true', List.any_eq_false, List.all_eq_true]
  constructor
  · intro h b hb
    have h1 := List.mem_filter.1 hb
    have h2 := h b h1.1
    rw [h1.2, Bool.and_true] at h2
    simpa using h2
  · intro h b hb
    cases hm : modT xss b
    · simp
    · rw [h b (List.mem_filter.2 ⟨hb, hm⟩)]
      simp
theorem bone_yes {n : Nat} {xss : List (List Int)} {k : Nat} (hk : k < n) : (boneTo n xss n).contains ((k : Int) + 1) = (mods (modT xss) (2 ^ n)).all fun b => b.testBit k := by
  rw [bone_contains (by omega) (by omega), imp_mods]
  congr 1
  funext b
  rw [cl_one, lit_pos]
theorem bone_no {n : Nat} {xss : List (List Int)} {k : Nat} (hk : k < n) : (boneTo n xss n).contains (-((k : Int) + 1)) = (mods (modT xss) (2 ^ n)).all fun b => !b.testBit k := by
  rw [bone_contains (by omega) (by omega), imp_mods]
  congr 1
  funext b
  rw [cl_one, lit_neg]
theorem mod_snoc (xss : List (List Int)) (d : List Int) (b : Nat) : modT (xss ++ [d]) b = (modT xss b && clT d b) := by simp [modT, List.all_append]
theorem equiv_imp (n : Nat) (xss : List (List Int)) (d : List Int) : ((List.range (2 ^ n)).all fun b => modT xss b == modT (xss ++ [d]) b) = impB n xss d := by
  rw [Bool.eq_iff_iff]
  unfold impB
  rw [Bool.not_eq_true', List.any_eq_false, List.all_eq_true]
  constructor
  · intro h b hb
    have h2 := h b hb
    rw [mod_snoc] at h2
    cases hm : modT xss b <;> cases hc : clT d b <;> simp_all
  · intro h b hb
    have h2 := h b hb
    rw [mod_snoc]
    cases hm : modT xss b <;> cases hc : clT d b <;> simp_all
theorem good_snoc {vars : Int} {xss : List (List Int)} {d : List Int} (h : goodB vars xss = true) (hc : clauseB vars d = true) (hl : xss.length < 60) : goodB vars (xss ++ [d]) = true := by
  unfold goodB at *
  simp only [Bool.and_eq_true, decide_eq_true_eq] at *
  refine ⟨⟨h.1.1, by simp; omega⟩, ?_⟩
  rw [List.all_append, h.2]
  simp [hc]
theorem all_first {p : Nat → Bool} {N : Nat} (h : (List.range N).any p = true) : ∃ m, (allN p N)[0]? = some (m : Int) ∧ idxP p (List.range N) = (m : Int) := by
  have hf : idxP p (List.range N) = ((List.range N).findIdx p : Nat) := by unfold idxP; rw [if_pos h]
  have hlt : (List.range N).findIdx p < (List.range N).length := List.findIdx_lt_length_of_exists (by simpa using List.any_eq_true.1 h)
  refine ⟨(List.range N).findIdx p, ?_, hf⟩
  have hfd : (List.range N).find? p = some ((List.range N).findIdx p) := by
    rw [List.find?_eq_some_iff_getElem]
    refine ⟨?_, _, hlt, by simp, fun j hj => ?_⟩
    · have := List.findIdx_getElem (w := hlt)
      simpa using this
    · have := List.not_of_lt_findIdx (xs := List.range N) (p := p) (i := j) hj
      simpa using this
  unfold allN
  rw [List.getElem?_map, ← List.head?_eq_getElem?, List.head?_filter, hfd]
  rfl
theorem cnt_pos {p : Nat → Bool} {N : Nat} : decide (0 < cntP p N) = (List.range N).any p := by
  rw [Bool.eq_iff_iff, decide_eq_true_eq, List.any_eq_true]
  unfold cntP
  rw [List.length_pos_iff_exists_mem]
  exact ⟨fun ⟨m, hm⟩ => ⟨m, (List.mem_filter.1 hm).1, (List.mem_filter.1 hm).2⟩, fun ⟨m, h1, h2⟩ => ⟨m, List.mem_filter.2 ⟨h1, h2⟩⟩⟩
/-- What the law's loop over the models has told of a bit. -/
theorem all_take_next {p : Nat → Bool} {ms : List Nat} {i : Nat} (hi : i < ms.length) : (ms.take (i + 1)).all p = ((ms.take i).all p && p ms[i]) := by
  rw [List.take_succ_eq_append_getElem hi, List.all_append]
  simp
end Go.Proofs.YtnfjgebfmnpkbaaGreat

/- Contracts: implied clauses, in the program. -/
namespace Go.Proofs.YtnfjgebfmnpkbaaGreat
open Go.RowKit

/-- Values of clauses that can be read. -/
def ClsV (w : World) (us : List Value) (xss : List (List Int)) : Prop := us.length = xss.length ∧ ∀ j (hj : j < xss.length), ∃ B c, us[j]? = some (.slice B xss[j].length c) ∧ IntsAt w B xss[j]
theorem cls_src {w : World} {A : Option Addr} {xss : List (List Int)} (h : ClsAt w A xss) : ∃ us, ClsV w us xss ∧ Src w A xss.length 1 us ∧ ∀ u ∈ us, u.oneCell' = true := by
  rcases Nat.eq_zero_or_pos xss.length with h0 | h0
  · obtain rfl : xss = [] := List.length_eq_zero_iff.1 h0
    exact ⟨[], ⟨rfl, fun j hj => absurd hj (by simp)⟩, .inl ⟨rfl, rfl⟩, by simp⟩
  · obtain ⟨b, off, -, -, rfl, -, -⟩ := h.at_ 0 h0
    have hat : ∀ j (hj : j < xss.length), ∃ B c, w.cell? ⟨b, off + j, none⟩ = some (.slice B xss[j].length c) ∧ IntsAt w B xss[j] := fun j hj => by
      obtain ⟨b', off', B, c, e, h1, h2⟩ := h.at_ j hj
      cases e
      exact ⟨B, c, h1, h2⟩
    refine ⟨(List.range xss.length).map fun j => (w.cell? ⟨b, off + j, none⟩).getD (.bool false), ⟨by simp, fun j hj => ?_⟩, .inr ⟨_, rfl, by simp, fun j u hu => ?_⟩, fun u hu => ?_⟩
    · obtain ⟨B, c, h1, h2⟩ := hat j hj
      exact ⟨B, c, by simp [List.getElem?_map, List.getElem?_range hj, h1], h2⟩
    · have hj : j < xss.length := by
        have := (List.getElem?_eq_some_iff.1 hu).1
        simpa using this
      obtain ⟨B, c, h1, h2⟩ := hat j hj
      rw [List.getElem?_map, List.getElem?_range hj] at hu
      simp only [Option.map_some, h1, Option.getD_some, Option.some.injEq] at hu
      rw [add_none, h1, hu]
    · obtain ⟨j, hj, rfl⟩ := List.mem_map.1 hu
      obtain ⟨B, c, h1, h2⟩ := hat j (List.mem_range.1 hj)
      rw [h1]; rfl
theorem ClsV.keep {w w' : World} {us : List Value} {xss : List (List Int)} (h : ClsV w us xss) (hb : Below w.heap.size w w') : ClsV w' us xss :=
  ⟨h.1, fun j hj => by
    obtain ⟨B, c, h1, h2⟩ := h.2 j hj
    exact ⟨B, c, h1, h2.grow hb⟩⟩
theorem ClsV.append {w : World} {us vs : List Value} {xss yss : List (List Int)} (h : ClsV w us xss) (k : ClsV w vs yss) : ClsV w (us ++ vs) (xss ++ yss) :=
  ⟨by simp [h.1, k.1], fun j hj => by
    by_cases hlt : j < xss.length
    · obtain ⟨B, c, h1, h2⟩ := h.2 j hlt
      rw [List.getElem_append_left hlt]
      exact ⟨B, c, by rw [List.getElem?_append_left (by rw [h.1]; exact hlt)]; exact h1, h2⟩
    · have hj2 : j - xss.length < yss.length := by rw [List.length_append] at hj; omega
      obtain ⟨B, c, h1, h2⟩ := k.2 _ hj2
      rw [List.getElem_append_right (by omega)]
      exact ⟨B, c, by rw [List.getElem?_append_right (by rw [h.1]; omega), h.1]; exact h1, h2⟩⟩
theorem ClsV.own {w : World} {B : Nat} {e : TypeId} {A : Option Addr} {c : Nat} {us : List Value} {xss : List (List Int)} (h : ClsV w us xss) (ho : w.ownsRow B e 1 (.slice A xss.length c) xss.length us) : ClsAt w A xss := ⟨fun j hj => by
  obtain ⟨g, cap, cur, e1, -, hh, -, -, -, ht⟩ := own_block ho (by omega)
  simp only [Value.slice.injEq] at e1
  obtain ⟨rfl, -, rfl⟩ := e1
  obtain ⟨B', c', h1, h2⟩ := h.2 j hj
  exact ⟨g, 0, B', c', rfl, by rw [Nat.zero_add, (own_at hh ht (o := j) (by omega)).1]; exact h1, h2⟩⟩

/- left out: the seat has no slices.Clone[[][]int,[]int] -/

abbrev oneP (r : Nat × Int) : Asn := Box r.1 3 #[.int .i64 r.2]
abbrev oneV (r : Nat × Int) : Value := .slice (some ⟨r.1, 0, none⟩) 1 1
theorem ones_cls {w0 w : World} {q : Asn} {rs : List (Nat × Int)} (h : Sp w0 w (q :: rs.map oneP)) (hI : ∀ r ∈ rs, I64 r.2) : ClsV w (rs.reverse.map oneV) (rs.reverse.map fun r => [r.2]) :=
  ⟨by simp, fun j hj => by
    have hj2 : j < rs.length := by simpa using hj
    have hk : (rs.reverse)[j]? = some (rs.reverse[j]'(by simpa using hj2)) := List.getElem?_eq_getElem _
    obtain ⟨r, hr⟩ : ∃ r, rs.reverse[j]'(by simpa using hj2) = r := ⟨_, rfl⟩
    rw [hr] at hk
    have hk2 : rs[rs.length - 1 - j]? = some r := by rw [List.getElem?_reverse hj2] at hk; exact hk
    have hb := h.box (i := rs.length - 1 - j + 1) (b := r.1) (t := 3) (cs := #[.int .i64 r.2]) (by rw [List.getElem?_cons_succ, List.getElem?_map, hk2]; rfl)
    have hmem : r ∈ rs := List.mem_of_getElem? hk2
    refine ⟨some ⟨r.1, 0, none⟩, 1, by rw [List.getElem?_map, hk]; simp, ?_⟩
    simp only [List.getElem_map, hr]
    exact ints_lone (by simp [World.cell?, hb.2.2]) (hI r hmem)⟩
theorem any_same {α : Type} {p q : α → Bool} {l : List α} (h : ∀ x ∈ l, p x = q x) : l.any p = l.any q := by
  rw [Bool.eq_iff_iff, List.any_eq_true, List.any_eq_true]
  exact ⟨fun ⟨x, h1, h2⟩ => ⟨x, h1, by rw [← h x h1]; exact h2⟩, fun ⟨x, h1, h2⟩ => ⟨x, h1, by rw [h x h1]; exact h2⟩⟩
theorem mod_negs {xss : List (List Int)} {c : List Int} {b : Nat} (hc : ∀ l ∈ c, l ≠ 0) : modT (xss ++ c.map fun l => [-l]) b = (!clT c b && modT xss b) := by
  have h2 : modT (c.map fun l => [-l]) b = !clT c b := by
    unfold modT clT
    rw [List.all_map, List.all_eq_not_any_not]
    congr 1
    refine any_same fun l hl => ?_
    · have h0 := hc l hl
      simp only [Function.comp, List.any_cons, List.any_nil, Bool.or_false]
      unfold litT
      rw [Int.natAbs_neg]
      by_cases hp : 0 < l
      · rw [decide_eq_true hp, decide_eq_false (by omega)]
        cases b.testBit (l.natAbs - 1) <;> rfl
      · rw [decide_eq_false hp, decide_eq_true (by omega)]
        cases b.testBit (l.natAbs - 1) <;> rfl
  have h3 : modT (xss ++ c.map fun l => [-l]) b = (modT xss b && modT (c.map fun l => [-l]) b) := by
    unfold modT
    rw [List.all_append]
  rw [h3, h2, Bool.and_comm]

/- left out: the seat has no impl.implies -/

/- left out: the seat has no impl.ImpliesClause -/
end Go.Proofs.YtnfjgebfmnpkbaaGreat

/- A part of the memory brought to the front. No program in sight. -/
namespace Go.Proofs.YtnfjgebfmnpkbaaGreat
open Go.RowKit

theorem sep_bring {w : World} : ∀ {ps : List Asn} {F : List Nat} {i : Nat} {q : Asn}, sep ps w F → ps[i]? = some q → ∃ F', sep (q :: ps.eraseIdx i) w F' ∧ ∀ b ∈ F', b ∈ F
  | [], _, _, _, _, h => by simp at h
  | p :: ps, F, 0, q, h, hi => by
    simp at hi; subst hi
    exact ⟨F, h, fun _ h => h⟩
  | p :: ps, _, i + 1, q, h, hi => by
    obtain ⟨F1, F2, rfl, hd, h1, h2⟩ := h
    obtain ⟨F', ⟨F3, F4, rfl, hd', h3, h4⟩, hs⟩ := sep_bring (i := i) h2 (by simpa using hi)
    refine ⟨F3 ++ (F1 ++ F4), ⟨F3, F1 ++ F4, rfl, fun b hb hb2 => ?_, h3, F1, F4, rfl, fun b hb hb2 => hd b hb (hs b (List.mem_append.2 (.inr hb2))), h1, h4⟩, fun b hb => ?_⟩
    · rcases List.mem_append.1 hb2 with h | h
      · exact hd b h (hs b (List.mem_append.2 (.inl hb)))
      · exact hd' b hb h
    · simp only [List.mem_append] at hb ⊢
      rcases hb with h | h | h
      · exact .inr (hs b (List.mem_append.2 (.inl h)))
      · exact .inl h
      · exact .inr (hs b (List.mem_append.2 (.inr h)))
section
variable {w0 w w' : World} {ps : List Asn} {i j : Nat} {q : Asn}
/-- A part is brought to the front. -/
theorem Sp.bring (h : Sp w0 w ps) (hi : ps[i]? = some q) : Sp w0 w (q :: ps.eraseIdx i) := by
  obtain ⟨h1, F, h2, h3⟩ := h
  obtain ⟨F', h4, h5⟩ := sep_bring h2 hi
  exact ⟨h1, F', h4, fun b hb => h3 b (h5 b hb)⟩
end
/-- Parts are picked, by their places in what is left. -/
def pickQ : List Nat → List Asn → Option (List Asn)
  | [], _ => some []
  | i :: is, ps => match ps[i]? with
    | none => none
    | some q => match pickQ is (ps.eraseIdx i) with
      | none => none
      | some qs => some (q :: qs)
theorem sep_pick {w : World} : ∀ {is : List Nat} {ps qs : List Asn} {F : List Nat}, sep ps w F → pickQ is ps = some qs → ∃ F', sep qs w F' ∧ ∀ b ∈ F', b ∈ F
  | [], _, _, _, _, hq => by
    simp only [pickQ, Option.some.injEq] at hq
    subst hq
    exact ⟨[], rfl, by simp⟩
  | i :: is, ps, qs, F, h, hq => by
    unfold pickQ at hq
    cases hi : ps[i]? with
    | none => rw [hi] at hq; cases hq
    | some q =>
      rw [hi] at hq
      simp only at hq
      cases hr : pickQ is (ps.eraseIdx i) with
      | none => rw [hr] at hq; cases hq
      | some rs =>
        rw [hr] at hq
        simp only [Option.some.injEq] at hq
        subst hq
        obtain ⟨F1, ⟨F2, F3, rfl, hd, h1, h2⟩, hs⟩ := sep_bring h hi
        obtain ⟨F4, h3, h4⟩ := sep_pick h2 hr
        exact ⟨F2 ++ F4, ⟨F2, F4, rfl, fun b hb hb4 => hd b hb (h4 b hb4), h1, h3⟩, fun b hb => by
          rcases List.mem_append.1 hb with hb | hb
          · exact hs b (List.mem_append.2 (.inl hb))
          · exact hs b (List.mem_append.2 (.inr (h4 b hb)))⟩
theorem Sp.pick {w0 w : World} {ps qs : List Asn} (is : List Nat) (h : Sp w0 w ps) (hq : pickQ is ps = some qs) : Sp w0 w qs := by
  obtain ⟨h1, F, h2, h3⟩ := h
  obtain ⟨F', h4, h5⟩ := sep_pick h2 hq
  exact ⟨h1, F', h4, fun b hb => h3 b (h5 b hb)⟩
end Go.Proofs.YtnfjgebfmnpkbaaGreat

/- Contracts: chosen clauses of a Cnf, and whether they are a core. -/
namespace Go.Proofs.YtnfjgebfmnpkbaaGreat
open Go.RowKit

/-- The clauses with some indices. -/
def pickC (xss : List (List Int)) (is : List Nat) : List (List Int) := is.map fun i => xss.getD i []
def ofN (is : List Nat) : List Int := is.map fun (i : Nat) => (i : Int)
/-- The clauses with some indices have no model. -/
def coreB (n : Nat) (xss : List (List Int)) (is : List Nat) : Bool := !(List.range (2 ^ n)).any (modT (pickC xss is))
theorem ofN_len (is : List Nat) : (ofN is).length = is.length := by simp [ofN]
theorem ofN_get {is : List Nat} {k : Nat} (hk : k < is.length) : (ofN is)[k]'(by rw [ofN_len]; exact hk) = (is[k] : Int) := by simp [ofN]
theorem pick_len (xss : List (List Int)) (is : List Nat) : (pickC xss is).length = is.length := by simp [pickC]
theorem pick_take {xss : List (List Int)} {is : List Nat} {k : Nat} (hk : k < is.length) : pickC xss (is.take (k + 1)) = pickC xss (is.take k) ++ [xss.getD is[k] []] := by
  unfold pickC
  rw [List.take_succ_eq_append_getElem hk, List.map_append]; rfl
theorem pick_cls {xss : List (List Int)} {is : List Nat} (hc : ∀ c ∈ xss, ClS c) (hi : ∀ i ∈ is, i < xss.length) : ∀ c ∈ pickC xss is, ClS c := by
  intro c hc'
  obtain ⟨i, hm, rfl⟩ := List.mem_map.1 hc'
  have hlt := hi i hm
  rw [List.getD_eq_getElem?_getD, List.getElem?_eq_getElem hlt]
  exact hc _ (List.getElem_mem hlt)
theorem ClsV.snoc {w : World} {us : List Value} {xss yss : List (List Int)} {i : Nat} {B : Option Addr} {c : Nat} (h : ClsV w us yss) (hi : i < xss.length) (hI : IntsAt w B xss[i]) : ClsV w (us ++ [.slice B xss[i].length c]) (yss ++ [xss.getD i []]) := by
  have hg : xss.getD i [] = xss[i] := by rw [List.getD_eq_getElem?_getD, List.getElem?_eq_getElem hi]; rfl
  rw [hg]
  exact h.append ⟨rfl, fun j hj => by
    obtain rfl : j = 0 := by simpa using hj
    exact ⟨B, c, rfl, hI⟩⟩
/-- What 'chosen' gives. -/
def PickD (w : World) (xss : List (List Int)) (is : List Nat) (e : Ending) (w' : World) : Prop :=
  ∃ E ec us, e = .returned (.slice E is.length ec) ∧ ClsV w us (pickC xss is) ∧ Sp w w' [Own 33 1 (.slice E is.length ec) is.length us]
theorem PickD.cls {w w' : World} {xss : List (List Int)} {is : List Nat} {E : Option Addr} {ec : Nat} {us : List Value} (h : ClsV w us (pickC xss is)) (S : Sp w w' [Own 33 1 (.slice E is.length ec) is.length us]) : ClsAt w' E (pickC xss is) := by
  have h2 := S.own (i := 0) rfl
  rw [← pick_len xss is] at h2
  exact (h.keep S.below).own h2

/- left out: the seat has no impl.chosen -/

end Go.Proofs.YtnfjgebfmnpkbaaGreat

/- Contracts: chosen clauses in the reference; cores on both sides. -/
namespace Go.Proofs.YtnfjgebfmnpkbaaGreat
open Go.RowKit

/- left out: the seat has no spec.l5Some -/

/- left out: the seat has no impl.isCore -/

/- left out: the seat has no spec.l5Core -/
end Go.Proofs.YtnfjgebfmnpkbaaGreat

/- Cores without superfluous clauses: plain facts. -/
namespace Go.Proofs.YtnfjgebfmnpkbaaGreat
open Go.RowKit

/-- Each index in turn is left out if the rest is still a core. -/
def coreGo (P : List Nat → Bool) : List Nat → List Nat → List Nat
  | kept, [] => kept
  | kept, i :: rest => if P (kept ++ rest) then coreGo P kept rest else coreGo P (kept ++ [i]) rest
theorem coreGo_yes {P : List Nat → Bool} {kept rest : List Nat} {i : Nat} (h : P (kept ++ rest) = true) : coreGo P kept (i :: rest) = coreGo P kept rest := by rw [coreGo, if_pos h]
theorem coreGo_no {P : List Nat → Bool} {kept rest : List Nat} {i : Nat} (h : P (kept ++ rest) = false) : coreGo P kept (i :: rest) = coreGo P (kept ++ [i]) rest := by rw [coreGo, if_neg (by rw [h]; decide)]
theorem skip_mid {kept rest : List Nat} {i : Nat} : (kept ++ i :: rest).eraseIdx kept.length = kept ++ rest := by
  rw [List.eraseIdx_append_of_length_le (Nat.le_refl _), Nat.sub_self]; rfl
/-- A list is ascending, within a range. -/
def AscN (m : Nat) (l : List Nat) : Prop := l.Pairwise (· < ·) ∧ ∀ i ∈ l, i < m
theorem AscN.sub {m : Nat} {l l' : List Nat} (h : AscN m l) (hs : l'.Sublist l) : AscN m l' := ⟨h.1.sublist hs, fun i hi => h.2 i (hs.subset hi)⟩
theorem coreGo_sub (P : List Nat → Bool) : ∀ (rest kept : List Nat), (coreGo P kept rest).Sublist (kept ++ rest)
  | [], kept => by rw [coreGo, List.append_nil]; exact List.Sublist.refl _
  | i :: rest, kept => by
    rw [coreGo]
    split
    · exact (coreGo_sub P rest kept).trans (List.Sublist.append_left (List.sublist_cons_self _ _) _)
    · have := coreGo_sub P rest (kept ++ [i])
      rwa [List.append_assoc] at this
theorem coreGo_kept (P : List Nat → Bool) : ∀ (rest kept : List Nat), ∃ t, coreGo P kept rest = kept ++ t ∧ t.Sublist rest
  | [], kept => ⟨[], by rw [coreGo, List.append_nil], List.Sublist.refl _⟩
  | i :: rest, kept => by
    rw [coreGo]
    split
    · obtain ⟨t, h1, h2⟩ := coreGo_kept P rest kept
      exact ⟨t, h1, h2.trans (List.sublist_cons_self _ _)⟩
    · obtain ⟨t, h1, h2⟩ := coreGo_kept P rest (kept ++ [i])
      exact ⟨i :: t, by rw [h1, List.append_assoc]; rfl, h2.cons_cons i⟩
/-- What is left is a core, if all was. -/
theorem coreGo_core {P : List Nat → Bool} : ∀ (rest kept : List Nat), P (kept ++ rest) = true → P (coreGo P kept rest) = true
  | [], kept, h => by rw [coreGo]; rwa [List.append_nil] at h
  | i :: rest, kept, h => by
    rw [coreGo]
    split
    · rename_i h2; exact coreGo_core rest kept h2
    · refine coreGo_core rest (kept ++ [i]) ?_
      rwa [List.append_assoc]
/-- None of what is left is superfluous. -/
theorem coreGo_min {P : List Nat → Bool} (hP : ∀ a b : List Nat, a.Sublist b → P a = true → P b = true) : ∀ (rest kept : List Nat), (∀ k, k < kept.length → ∀ t, t.Sublist rest → P (kept.eraseIdx k ++ t) = false) →
    ∀ k, k < (coreGo P kept rest).length → P ((coreGo P kept rest).eraseIdx k) = false
  | [], kept, h, k, hk => by
    rw [coreGo] at hk ⊢
    have := h k hk [] (List.Sublist.refl _)
    rwa [List.append_nil] at this
  | i :: rest, kept, h, k, hk => by
    rw [coreGo] at hk ⊢
    split
    · rename_i h2
      rw [if_pos h2] at hk
      exact coreGo_min hP rest kept (fun j hj t ht => h j hj t (ht.trans (List.sublist_cons_self _ _))) k hk
    · rename_i h2
      rw [if_neg h2] at hk
      refine coreGo_min hP rest (kept ++ [i]) (fun j hj t ht => ?_) k hk
      rw [List.length_append] at hj
      by_cases hjl : j < kept.length
      · rw [List.eraseIdx_append_of_lt_length hjl, List.append_assoc]
        exact h j hjl (i :: t) (ht.cons_cons i)
      · obtain rfl : j = kept.length := by simp at hj; omega
        rw [skip_mid (rest := []), List.append_nil]
        cases hb : P (kept ++ t)
        · rfl
        · exact absurd (hP _ _ (List.Sublist.append_left ht kept) hb) h2
theorem core_mono {n : Nat} {xss : List (List Int)} {a b : List Nat} (h : a.Sublist b) (ha : coreB n xss a = true) : coreB n xss b = true := by
  unfold coreB at *
  rw [Bool.not_eq_true', List.any_eq_false] at *
  intro m hm
  have h2 := ha m hm
  intro hb
  refine h2 ?_
  unfold modT pickC at *
  rw [List.all_eq_true] at *
  intro c hc
  obtain ⟨i, hi, rfl⟩ := List.mem_map.1 hc
  exact hb _ (List.mem_map.2 ⟨i, h.subset hi, rfl⟩)
theorem pick_range (xss : List (List Int)) : pickC xss (List.range xss.length) = xss := by
  unfold pickC
  apply List.ext_getElem
  · simp
  · intro i h1 h2
    simp [List.getD_eq_getElem?_getD, h2]
theorem core_all {n : Nat} {xss : List (List Int)} : coreB n xss (List.range xss.length) = !(List.range (2 ^ n)).any (modT xss) := by
  unfold coreB
  rw [pick_range]
theorem range_asc (m : Nat) : AscN m (List.range m) := ⟨List.pairwise_lt_range, fun _ hi => List.mem_range.1 hi⟩
end Go.Proofs.YtnfjgebfmnpkbaaGreat
