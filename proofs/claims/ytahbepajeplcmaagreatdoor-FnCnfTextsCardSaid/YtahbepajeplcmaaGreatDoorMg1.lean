/- Lemmas and contracts for a law, put together out of several texts: PlA PlB StrA NumT RepA MemA SepA HTail Cur. -/
import Derived.WalkKit
import Derived.Lib.ItoaNum
import Derived.Test.YtahbepajeplcmaaGreatDoorProg
import Derived.WalkLawsBesides
import Derived.WalkSpells
import Derived.Lib.QuietBelow
import Derived.BigQuiet
import Derived.Below
import Derived.Maps.AppendAt
import Derived.Deep.RegionHeld
import Derived.StillTail
import Derived.Lib.Hide
/- Plain facts on byte strings: no program in sight. -/
namespace Go.Proofs.YtahbepajeplcmaaGreatDoor

/-- The bytes of a string. -/
def bl (s : ByteArray) : List UInt8 := s.data.toList
/-- The string of some bytes. -/
def ms (l : List UInt8) : ByteArray := ⟨l.toArray⟩

@[go_sem] theorem bl_ms (l : List UInt8) : bl (ms l) = l := rfl
theorem ms_bl (s : ByteArray) : ms (bl s) = s := rfl
theorem bl_length (s : ByteArray) : (bl s).length = s.size := rfl
theorem bl_lit (a : Array UInt8) : bl ⟨a⟩ = a.toList := rfl
theorem bl_inj {s t : ByteArray} (h : bl s = bl t) : s = t := by
  have := congrArg ms h
  simpa [ms_bl] using this
theorem bl_append (s t : ByteArray) : bl (s ++ t) = bl s ++ bl t := by simp [bl]
theorem bl_mk (l : List UInt8) : bl ⟨l.toArray⟩ = l := rfl
theorem bl_extract (s : ByteArray) (a b : Nat) : bl (s.extract a b) = ((bl s).drop a).take (b - a) := by
  simp [bl, ByteArray.data_extract, List.extract_eq_take_drop]
@[go_sem] theorem bl_toList (s : ByteArray) : s.toList = bl s := ByteArray.toList_eq s
@[go_sem] theorem ms_size (l : List UInt8) : (ms l).size = l.length := rfl
theorem bl_get (s : ByteArray) (k : Nat) (h : k < s.size) : (bl s)[k]'(by rw [bl_length]; exact h) = s[k] := rfl
theorem bl_take_succ (s : ByteArray) (k : Nat) (h : k < s.size) : (bl s).take (k + 1) = (bl s).take k ++ [s[k]] := by
  rw [List.take_succ_eq_append_getElem (by rw [bl_length]; exact h), bl_get s k h]
theorem bl_take_all (s : ByteArray) (k : Nat) (h : s.size ≤ k) : (bl s).take k = bl s := List.take_of_length_le (by rw [bl_length]; exact h)

theorem run_add {P : Program} (w : World) (s t : ByteArray) (h : s.size + t.size ≤ 9223372036854775807) : (Op.stringOp .add s t).run P w = .ok (.string (ms (bl s ++ bl t))) w := by
  rw [run_string_add_sum _ _ _ h]
  congr 2

/-- a ≤ x ≤ b. -/
def inB (x a b : Int) : Bool := decide (a ≤ x) && decide (x ≤ b)
theorem inB_true {x a b : Int} : inB x a b = true ↔ a ≤ x ∧ x ≤ b := by simp [inB]
theorem inB_false {x a b : Int} : inB x a b = false ↔ ¬ (a ≤ x ∧ x ≤ b) := by rw [← inB_true]; simp

/-- A byte is among the bytes. -/
def hasB (l : List UInt8) (b : Int) : Bool := l.any fun c => (c.toNat : Int) == b
theorem hasB_snoc (l : List UInt8) (c : UInt8) (b : Int) : hasB (l ++ [c]) b = (hasB l b || ((c.toNat : Int) == b)) := by simp [hasB]
theorem hasB_true_of_take {l : List UInt8} {k : Nat} {b : Int} (h : hasB (l.take k) b = true) : hasB l b = true := by
  simp only [hasB, List.any_eq_true] at *
  obtain ⟨x, hx, e⟩ := h
  exact ⟨x, List.mem_of_mem_take hx, e⟩

/-- Bytes that may stand in a record: 32..126, no '#'. -/
def okB (c : UInt8) : Bool := inB c.toNat 32 126 && !((c.toNat : Int) == 35)
def allB (l : List UInt8) : Bool := l.all okB
theorem allB_snoc (l : List UInt8) (c : UInt8) : allB (l ++ [c]) = (allB l && okB c) := by simp [allB]
theorem allB_false_of_take {l : List UInt8} {k : Nat} (h : allB (l.take k) = false) : allB l = false := by
  rw [← List.take_append_drop k l]
  simp only [allB, List.all_append] at *
  rw [h]; rfl
def plainB (l : List UInt8) (most : Int) : Bool := allB l && decide ((l.length : Int) ≤ most)
/-- Bytes in 32..126. -/
def seenB (l : List UInt8) : Bool := l.all fun c => inB c.toNat 32 126
theorem seenB_snoc (l : List UInt8) (c : UInt8) : seenB (l ++ [c]) = (seenB l && inB c.toNat 32 126) := by simp [seenB]
theorem seenB_false_of_take {l : List UInt8} {k : Nat} (h : seenB (l.take k) = false) : seenB l = false := by
  rw [← List.take_append_drop k l]
  simp only [seenB, List.all_append] at *
  rw [h]; rfl

theorem ret_int {k : IntKind} {a b : Int} (h : a = b) : Ending.returned (.int k a) = .returned (.int k b) := by rw [h]
theorem ret_bool {a b : Bool} (h : a = b) : Ending.returned (.bool a) = .returned (.bool b) := by rw [h]

theorem bcell {W w1 : World} (hb : RowKit.Below W.heap.size W w1) : (∀ b o, b < W.heap.size → w1.cell? ⟨b, o, none⟩ = W.cell? ⟨b, o, none⟩) ∧ (∀ b o, b < W.heap.size → w1.frozen? ⟨b, o, none⟩ = W.frozen? ⟨b, o, none⟩) :=
  ⟨fun b o h => hb.cell (p := ⟨b, o, none⟩) h, fun b o h => hb.frozen (p := ⟨b, o, none⟩) h⟩
theorem bb (W : World) : RowKit.Below W.heap.size W W := RowKit.Below.refl _ _
theorem bal {W w : World} (h : RowKit.Below W.heap.size W w) (o : Obj) : RowKit.Below W.heap.size W (w.alloc o) := h.alloc h.size o
theorem bst {W w : World} (h : RowKit.Below W.heap.size W w) {p : Addr} (hp : W.heap.size ≤ p.block) (u : Value) : RowKit.Below W.heap.size W (w.setCell p u) := h.setCell hp u
theorem btr {W w w' : World} (h : RowKit.Below W.heap.size W w) (h' : RowKit.Below w.heap.size w w') : RowKit.Below W.heap.size W w' := h.trans (h'.mono h.size)
theorem bdr {W w : World} (h : RowKit.Below W.heap.size W w) : RowKit.Below W.heap.size W w.drew := h.drew
/-- What a step of a region does to the lists that it carries: one name for all the rules. -/
theorem put_rules : (∀ (l : List Oper) (i : Nat) (h : i < l.toArray.size), l.toArray[i]'h = l[i]'(by simpa using h)) ∧ (∀ (o : Oper) (l : List Oper) (h : 0 < (o :: l).length), (o :: l)[0]'h = o) ∧ (∀ (o : Oper) (l : List Oper) (n : Nat) (h : n + 1 < (o :: l).length), (o :: l)[n + 1]'h = l[n]'(Nat.lt_of_succ_lt_succ h)) ∧ (∀ (a : Act) (d : Tmp) (v : Value), a.put (some d) v = { a with tmps := a.tmps.setIfInBounds d v }) ∧ (∀ (a : Act) (v : Value), a.put none v = a) ∧ (∀ (l : List Bool) (i : Nat) (b : Bool), l.toArray.setIfInBounds i b = (l.set i b).toArray) ∧ (∀ (l : List Value) (i : Nat) (b : Value), l.toArray.setIfInBounds i b = (l.set i b).toArray) ∧
    (∀ (a b : Bool) (l : List Bool), (a :: l).set 0 b = b :: l) ∧ (∀ (a b : Value) (l : List Value), (a :: l).set 0 b = b :: l) ∧
    (∀ (a b : Bool) (l : List Bool) (n : Nat), (a :: l).set (n + 1) b = a :: l.set n b) ∧ (∀ (a b : Value) (l : List Value) (n : Nat), (a :: l).set (n + 1) b = a :: l.set n b) :=
  ⟨fun _ _ _ => rfl, fun _ _ _ => rfl, fun _ _ _ _ => rfl, fun _ _ _ => rfl, fun _ _ => rfl, fun _ _ _ => List.setIfInBounds_toArray .., fun _ _ _ => List.setIfInBounds_toArray .., fun _ _ _ => rfl, fun _ _ _ => rfl, fun _ _ _ _ => rfl, fun _ _ _ _ => rfl⟩
end Go.Proofs.YtahbepajeplcmaaGreatDoor

/- Plain facts: decimals, checksums, sealed strings, splitting. No program in sight. -/
namespace Go.Proofs.YtahbepajeplcmaaGreatDoor

theorem decDigits_big {u : Nat} (h : ¬ u < 10) : Lib.decDigits u = Lib.decDigits (u / 10) ++ [UInt8.ofNat (48 + u % 10)] := by rw [Lib.decDigits, dif_neg h]
theorem itoa_nat (u : Nat) : Lib.itoa u = Lib.decDigits u := by simp [Lib.itoa, Int.not_lt.2 (Int.natCast_nonneg u)]
theorem itoa_neg (u : Nat) (h : 0 < u) : Lib.itoa (-(u : Int)) = 45 :: Lib.decDigits u := by
  rw [Lib.itoa, if_pos (by omega)]; congr 2; omega
theorem digit_at : ∀ k : Nat, k < 10 → (ByteArray.mk #[48, 49, 50, 51, 52, 53, 54, 55, 56, 57]).extract k (k + 1) = ms [UInt8.ofNat (48 + k)] := by
  intro k hk
  apply bl_inj
  rw [bl_extract, bl_ms]
  match k, hk with
  | 0, _ => rfl
  | 1, _ => rfl
  | 2, _ => rfl
  | 3, _ => rfl
  | 4, _ => rfl
  | 5, _ => rfl
  | 6, _ => rfl
  | 7, _ => rfl
  | 8, _ => rfl
  | 9, _ => rfl
theorem decDigits_ne (u : Nat) : Lib.decDigits u ≠ [] := by
  by_cases h : u < 10
  · rw [Lib.decDigits, dif_pos h]; simp
  · rw [decDigits_big h]; simp
theorem decDigits_len : ∀ (k u : Nat), u < 10 ^ (k + 1) → (Lib.decDigits u).length ≤ k + 1
  | 0, u, h => by rw [Lib.decDigits, dif_pos (by simpa using h)]; simp
  | k + 1, u, h => by
    by_cases h1 : u < 10
    · rw [Lib.decDigits, dif_pos h1]; simp
    · rw [decDigits_big h1, List.length_append]
      have := decDigits_len k (u / 10) (by rw [Nat.pow_succ] at h; omega)
      simp; omega
theorem decDigits_digit : ∀ (n u : Nat), u ≤ n → ∀ c ∈ Lib.decDigits u, 48 ≤ c.toNat ∧ c.toNat ≤ 57
  | n, u, hn => by
    intro c hc
    by_cases h1 : u < 10
    · rw [Lib.decDigits, dif_pos h1] at hc
      simp at hc; subst hc
      simp; omega
    · rw [decDigits_big h1] at hc
      rcases List.mem_append.1 hc with hc | hc
      · cases n with
        | zero => omega
        | succ n => exact decDigits_digit n (u / 10) (by omega) c hc
      · simp at hc; subst hc
        simp; omega
termination_by n => n

/-- The checksum. -/
def sumB (l : List UInt8) : Int := l.foldl (fun h c => (41 * h + c.toNat + 1) % 999979) 7
theorem sumB_snoc (l : List UInt8) (c : UInt8) : sumB (l ++ [c]) = (41 * sumB l + c.toNat + 1) % 999979 := by simp [sumB]
theorem sumB_nil : sumB [] = 7 := rfl
theorem sumB_range (l : List UInt8) : 0 ≤ sumB l ∧ sumB l < 999979 := by
  rcases List.eq_nil_or_concat l with rfl | ⟨l', c, rfl⟩
  · exact ⟨by decide, by decide⟩
  · rw [List.concat_eq_append, sumB_snoc]; omega
/-- The sealed string. -/
def sealB (l : List UInt8) : List UInt8 := l ++ 35 :: Lib.itoa (sumB l)
theorem itoa_len {n : Int} (h0 : 0 ≤ n) (h : n < 1000000) : (Lib.itoa n).length ≤ 6 := by
  obtain ⟨u, rfl⟩ := Int.eq_ofNat_of_zero_le h0
  rw [itoa_nat]
  exact decDigits_len 5 u (by omega)
theorem sealB_length (l : List UInt8) : (sealB l).length ≤ l.length + 7 := by
  have := sumB_range l
  have := itoa_len this.1 (by omega)
  simp [sealB]; omega
end Go.Proofs.YtahbepajeplcmaaGreatDoor

/- Contracts of small functions on numbers and bytes. -/
namespace Go.Proofs.YtahbepajeplcmaaGreatDoor
open Go.RowKit

set_option maxHeartbeats 400000 in
theorem l1In_any (x a b : Int) (w : World) :
    Calls Tryz.prog 88 #[.int .i64 x, .int .i64 a, .int .i64 b] w fun e w' => e = .returned (.bool (inB x a b)) ∧ w = w' := by
  by_cases h : a ≤ x
  · go_enter Tryz.func88, Tryz.ntmps88
    go_wp2
    go_ret
    exact ⟨ret_bool (by simp [inB, h]), rfl⟩
  · go_enter Tryz.func88, Tryz.ntmps88
    go_wp2
    go_ret
    exact ⟨ret_bool (by simp [inB]; omega), rfl⟩

set_option maxHeartbeats 400000 in
theorem within_any (x a b : Int) (w : World) :
    Calls Tryz.prog 57 #[.int .i64 x, .int .i64 a, .int .i64 b] w fun e w' => e = .returned (.bool (inB x a b)) ∧ w = w' := by
  by_cases h : a ≤ x
  · go_enter Tryz.func57, Tryz.ntmps57
    go_wp2
    go_ret
    exact ⟨ret_bool (by simp [inB, h]), rfl⟩
  · go_enter Tryz.func57, Tryz.ntmps57
    go_wp2
    go_ret
    exact ⟨ret_bool (by simp [inB]; omega), rfl⟩

/- left out: the seat has no spec.l1Stands -/
end Go.Proofs.YtahbepajeplcmaaGreatDoor

/- Contract: the decimal of a number, in the reference. -/
namespace Go.Proofs.YtahbepajeplcmaaGreatDoor
open Go.RowKit

theorem ret_str {s t : ByteArray} (h : s = t) : Ending.returned (.string s) = .returned (.string t) := by rw [h]

/-- One decimal digit. -/
def dgB (n : Int) : List UInt8 := [UInt8.ofNat (48 + n.toNat)]
theorem dgB_length (n : Int) : (dgB n).length = 1 := rfl

theorem digit_int (n : Int) (h0 : 0 ≤ n) (h : n < 10) : (ByteArray.mk #[48, 49, 50, 51, 52, 53, 54, 55, 56, 57]).extract n.toNat (n + 1).toNat = ms (dgB n) := by
  unfold dgB
  rw [show (n + 1).toNat = n.toNat + 1 by omega]
  exact digit_at _ (by omega)

set_option maxHeartbeats 400000 in
theorem l1Num_nat (k : Nat) : ∀ (n : Int) (w : World), 0 ≤ n → n ≤ 1000000000000 → n.toNat ≤ k →
    Calls Tryz.prog 125 #[.int .i64 n] w fun e w' => e = .returned (.string (ms (Lib.decDigits n.toNat))) ∧ Below w.heap.size w w' := by
  induction k with
  | zero =>
    intro n w h0 hb hk
    have h : n < 10 := by omega
    go_enter Tryz.func125, Tryz.ntmps125
    go_wp2_with fail
    go_ret
    exact ⟨ret_str (by rw [Lib.decDigits, dif_pos (by omega)]; exact digit_int n h0 h), bb _⟩
  | succ k ih =>
    intro n w h0 hb hk
    by_cases h : n < 10
    · go_enter Tryz.func125, Tryz.ntmps125
      go_wp2_with fail
      go_ret
      exact ⟨ret_str (by rw [Lib.decDigits, dif_pos (by omega)]; exact digit_int n h0 h), bb _⟩
    · have hl : (Lib.decDigits (n / 10).toNat).length ≤ 13 := decDigits_len 12 _ (by omega)
      have hm1 : 0 ≤ n % 10 := by omega
      have hm2 : n % 10 < 10 := by omega
      have e4 := digit_int (n % 10) hm1 hm2
      have e5 := fun w => run_add (P := Tryz.prog) w (ms (Lib.decDigits (n / 10).toNat)) (ms (dgB (n % 10))) (by rw [ms_size, ms_size, dgB_length]; omega)
      have e6 : Hid (bl (ms (Lib.decDigits (n / 10).toNat)) ++ bl (ms (dgB (n % 10))) = Lib.decDigits n.toNat) := by
        rw [bl_ms, bl_ms, decDigits_big (u := n.toNat) (by omega)]
        unfold Hid dgB
        rw [show n.toNat / 10 = (n / 10).toNat by omega, show n.toNat % 10 = (n % 10).toNat by omega]
      have q1 : 0 ≤ n / 10 := by omega
      have q2 : n / 10 ≤ 1000000000000 := by omega
      have q3 : (n / 10).toNat ≤ k := by omega
      have e1 : IntKind.i64.wrap (n.tdiv 10) = n / 10 := by rw [Int.tdiv_eq_ediv_of_nonneg h0]; exact IntWalk.i64_in _ (by omega)
      have e2 : IntKind.i64.wrap (n.tmod 10) = n % 10 := by rw [Int.tmod_eq_emod_of_nonneg h0]; exact IntWalk.i64_in _ (by clear e1; omega)
      have e3 : IntKind.i64.wrap (n % 10 + 1) = n % 10 + 1 := IntWalk.i64_in _ (by clear e1 e2; omega)
      go_enter Tryz.func125, Tryz.ntmps125
      go_wp2_with fail
      refine wp_region_quiet_below (by kernel_rfl) (by kernel_rfl) ?_
      repeat (any_goals (first | go_big_quiet_step ((go_at_call 125; exact Calls.regrown_of (ih (n / 10) _ q1 q2 q3))) | quiet_step ((go_at_call 125; exact Calls.regrown_of (ih (n / 10) _ q1 q2 q3)))))
      refine wpQuiet_nil ?_
      rintro w1 ⟨p, rfl⟩
      go_wp2_with fail
      go_ret
      exact ⟨ret_str (congrArg ms e6.out), below_regrown _ _ _⟩

theorem l1Num_pos (n : Int) (w : World) (h0 : 0 ≤ n) (h1 : n ≤ 1000000000000) :
    Calls Tryz.prog 125 #[.int .i64 n] w fun e w' => e = .returned (.string (ms (Lib.itoa n))) ∧ Below w.heap.size w w' := by
  have e : Lib.itoa n = Lib.decDigits n.toNat := by rw [Lib.itoa, if_neg (by omega)]
  rw [e]
  exact l1Num_nat n.toNat n w h0 h1 (Nat.le_refl _)

set_option maxHeartbeats 400000 in
theorem l1Num_any (n : Int) (w : World) (h0 : -1000000000000 ≤ n) (h1 : n ≤ 1000000000000) :
    Calls Tryz.prog 125 #[.int .i64 n] w fun e w' => e = .returned (.string (ms (Lib.itoa n))) ∧ Below w.heap.size w w' := by
  by_cases hn : n < 0
  · have hl : (Lib.itoa (-n)).length ≤ 13 := by
      rw [Lib.itoa, if_neg (by omega)]; exact decDigits_len 12 _ (by omega)
    have e6 : Hid (45 :: Lib.itoa (-n) = Lib.itoa n) := by
      unfold Hid
      rw [Lib.itoa, if_neg (by omega), Lib.itoa, if_pos hn, show n.natAbs = (-n).toNat by omega]
    go_enter Tryz.func125, Tryz.ntmps125
    go_wp2_with (go_at_call 125; refine (l1Num_pos (-n) _ (by omega) (by omega)).mono ?_; rintro e w1 ⟨rfl, hb1⟩)
    go_ret
    exact ⟨ret_str (by apply bl_inj; rw [bl_ms, ← e6.out]; simp [bl_append, bl_ms, bl_lit]), by assumption⟩
  · exact l1Num_pos n w (by omega) h1
end Go.Proofs.YtahbepajeplcmaaGreatDoor

/- How Go values hold data in memory, with the blocks that are reached. No program in sight. -/
namespace Go.Proofs.YtahbepajeplcmaaGreatDoor
open Go.RowKit

/-- A number that fits an int. -/
def I64 (n : Int) : Prop := -9223372036854775808 ≤ n ∧ n ≤ 9223372036854775807

/-- The cell at offset o of block b holds v; where wr, it may be written. -/
def cellIs (wr : Bool) (w : World) (b o : Nat) (v : Value) : Prop :=
  w.cell? ⟨b, o, none⟩ = some v ∧ (wr = true → w.frozen? ⟨b, o, none⟩ = false)

theorem cellIs.keep {wr : Bool} {w w' : World} {b o : Nat} {v : Value} (h : cellIs wr w b o v) (hb : w'.heap[b]? = w.heap[b]?) : cellIs wr w' b o v :=
  ⟨by rw [World.cell?_of_block (w := w) hb]; exact h.1, fun e => by rw [World.frozen?_of_block (w := w) hb]; exact h.2 e⟩
theorem cellIs.down {w : World} {b o : Nat} {v : Value} {wr : Bool} (h : cellIs wr w b o v) : cellIs false w b o v := ⟨h.1, fun e => by cases e⟩
theorem cellIs.lt {w : World} {b o : Nat} {v : Value} {wr : Bool} (h : cellIs wr w b o v) : b < w.heap.size := World.block_lt_of_cell? w _ h.1

/-- How a Go type holds data of type α in 'size' cells; the last argument: the blocks that are reached, one for each slice that is not empty. -/
structure Ty (α : Type) where
  size : Nat
  rep : Bool → World → List Value → α → List Nat → Prop
  len : ∀ {wr w cs x F}, rep wr w cs x F → cs.length = size
  lt : ∀ {wr w cs x F}, rep wr w cs x F → ∀ b ∈ F, b < w.heap.size
  keep : ∀ {wr w w' cs x F}, rep wr w cs x F → (∀ b ∈ F, w'.heap[b]? = w.heap[b]?) → rep wr w' cs x F
  down : ∀ {wr w cs x F}, rep wr w cs x F → rep false w cs x F

def Ty.int : Ty Int where
  size := 1
  rep _ _ cs n F := cs = [.int .i64 n] ∧ I64 n ∧ F = []
  len h := by obtain ⟨rfl, _, _⟩ := h; rfl
  lt h := by obtain ⟨_, _, rfl⟩ := h; simp
  keep h _ := h
  down h := h
def Ty.bool : Ty Bool where
  size := 1
  rep _ _ cs n F := cs = [.bool n] ∧ F = []
  len h := by obtain ⟨rfl, _⟩ := h; rfl
  lt h := by obtain ⟨_, rfl⟩ := h; simp
  keep h _ := h
  down h := h
def Ty.str : Ty ByteArray where
  size := 1
  rep _ _ cs s F := cs = [.string s] ∧ s.size ≤ 9223372036854775807 ∧ F = []
  len h := by obtain ⟨rfl, _, _⟩ := h; rfl
  lt h := by obtain ⟨_, _, rfl⟩ := h; simp
  keep h _ := h
  down h := h
def Ty.pair {α β : Type} (T : Ty α) (U : Ty β) : Ty (α × β) where
  size := T.size + U.size
  rep wr w cs x F := ∃ c d F1 F2, cs = c ++ d ∧ F = F1 ++ F2 ∧ T.rep wr w c x.1 F1 ∧ U.rep wr w d x.2 F2
  len h := by obtain ⟨c, d, F1, F2, rfl, _, h1, h2⟩ := h; simp [T.len h1, U.len h2]
  lt h := by
    obtain ⟨c, d, F1, F2, _, rfl, h1, h2⟩ := h
    intro b hb
    rcases List.mem_append.1 hb with hb | hb
    · exact T.lt h1 b hb
    · exact U.lt h2 b hb
  keep h hk := by
    obtain ⟨c, d, F1, F2, e1, rfl, h1, h2⟩ := h
    exact ⟨c, d, F1, F2, e1, rfl, T.keep h1 fun b hb => hk b (List.mem_append.2 (.inl hb)), U.keep h2 fun b hb => hk b (List.mem_append.2 (.inr hb))⟩
  down h := by
    obtain ⟨c, d, F1, F2, e1, e2, h1, h2⟩ := h
    exact ⟨c, d, F1, F2, e1, e2, T.down h1, U.down h2⟩
/-- The same cells, the data told otherwise. -/
def Ty.as {α β : Type} (T : Ty α) (g : β → α) : Ty β where
  size := T.size
  rep wr w cs x F := T.rep wr w cs (g x) F
  len h := T.len h
  lt h := T.lt h
  keep h hk := T.keep h hk
  down h := T.down h

section all
variable {α : Type} (T : Ty α)
/-- Cells that hold a list of elements, one behind the other. -/
def Ty.all (wr : Bool) (w : World) : List Value → List α → List Nat → Prop
  | cs, [], F => cs = [] ∧ F = []
  | cs, x :: xs, F => ∃ c d F1 F2, cs = c ++ d ∧ F = F1 ++ F2 ∧ T.rep wr w c x F1 ∧ Ty.all wr w d xs F2

variable {T}
theorem Ty.all_len {wr : Bool} {w : World} : ∀ {cs : List Value} {xs : List α} {F : List Nat}, T.all wr w cs xs F → cs.length = xs.length * T.size
  | _, [], _, h => by obtain ⟨rfl, _⟩ := h; simp
  | _, x :: xs, _, h => by
    obtain ⟨c, d, F1, F2, rfl, _, h1, h2⟩ := h
    rw [List.length_append, T.len h1, Ty.all_len h2, List.length_cons, Nat.add_mul]; omega
theorem Ty.all_lt {wr : Bool} {w : World} : ∀ {cs : List Value} {xs : List α} {F : List Nat}, T.all wr w cs xs F → ∀ b ∈ F, b < w.heap.size
  | _, [], _, h => by obtain ⟨_, rfl⟩ := h; simp
  | _, x :: xs, _, h => by
    obtain ⟨c, d, F1, F2, _, rfl, h1, h2⟩ := h
    intro b hb
    rcases List.mem_append.1 hb with hb | hb
    · exact T.lt h1 b hb
    · exact Ty.all_lt h2 b hb
theorem Ty.all_keep {wr : Bool} {w w' : World} : ∀ {cs : List Value} {xs : List α} {F : List Nat}, T.all wr w cs xs F → (∀ b ∈ F, w'.heap[b]? = w.heap[b]?) → T.all wr w' cs xs F
  | _, [], _, h, _ => h
  | _, x :: xs, _, h, hk => by
    obtain ⟨c, d, F1, F2, e1, rfl, h1, h2⟩ := h
    exact ⟨c, d, F1, F2, e1, rfl, T.keep h1 fun b hb => hk b (List.mem_append.2 (.inl hb)), Ty.all_keep h2 fun b hb => hk b (List.mem_append.2 (.inr hb))⟩
theorem Ty.all_down {wr : Bool} {w : World} : ∀ {cs : List Value} {xs : List α} {F : List Nat}, T.all wr w cs xs F → T.all false w cs xs F
  | _, [], _, h => h
  | _, x :: xs, _, h => by
    obtain ⟨c, d, F1, F2, e1, rfl, h1, h2⟩ := h
    exact ⟨c, d, F1, F2, e1, rfl, T.down h1, Ty.all_down h2⟩
theorem Ty.all_append {wr : Bool} {w : World} : ∀ {cs ds : List Value} {xs ys : List α} {F G : List Nat}, T.all wr w cs xs F → T.all wr w ds ys G → T.all wr w (cs ++ ds) (xs ++ ys) (F ++ G)
  | _, _, [], _, _, _, h, h' => by obtain ⟨rfl, rfl⟩ := h; exact h'
  | _, _, x :: xs, _, _, _, h, h' => by
    obtain ⟨c, d, F1, F2, rfl, rfl, h1, h2⟩ := h
    exact ⟨c, _, F1, _, List.append_assoc .., List.append_assoc .., h1, Ty.all_append h2 h'⟩
theorem Ty.all_one {wr : Bool} {w : World} {c : List Value} {x : α} {F : List Nat} (h : T.rep wr w c x F) : T.all wr w c [x] F :=
  ⟨c, [], F, [], by simp, by simp, h, rfl, rfl⟩
theorem Ty.all_snoc {wr : Bool} {w : World} {cs c : List Value} {xs : List α} {x : α} {F G : List Nat} (h : T.all wr w cs xs F) (h' : T.rep wr w c x G) : T.all wr w (cs ++ c) (xs ++ [x]) (F ++ G) :=
  Ty.all_append h (Ty.all_one h')
/-- The element at place k: what stands ahead of it, its own cells, what stands behind. -/
theorem Ty.all_split {wr : Bool} {w : World} : ∀ {cs : List Value} {xs : List α} {F : List Nat} (_ : T.all wr w cs xs F) (k : Nat) (hk : k < xs.length),
    ∃ c d e F1 F2 F3, cs = c ++ d ++ e ∧ F = F1 ++ F2 ++ F3 ∧ c.length = k * T.size ∧ T.all wr w c (xs.take k) F1 ∧ T.rep wr w d xs[k] F2 ∧ T.all wr w e (xs.drop (k + 1)) F3
  | _, x :: xs, _, h, 0, _ => by
    obtain ⟨c, d, F1, F2, rfl, rfl, h1, h2⟩ := h
    exact ⟨[], c, d, [], F1, F2, by simp, by simp, by simp, ⟨rfl, rfl⟩, h1, h2⟩
  | _, x :: xs, _, h, k + 1, hk => by
    obtain ⟨c, d, F1, F2, rfl, rfl, h1, h2⟩ := h
    obtain ⟨c', d', e', G1, G2, G3, rfl, rfl, hl, a1, a2, a3⟩ := Ty.all_split h2 k (by simpa using hk)
    exact ⟨c ++ c', d', e', F1 ++ G1, G2, G3, by simp, by simp, by rw [List.length_append, hl, T.len h1, Nat.add_mul]; omega, ⟨c, c', F1, G1, rfl, rfl, h1, a1⟩, by simpa using a2, by simpa using a3⟩
theorem Ty.all_take {wr : Bool} {w : World} {cs : List Value} {xs : List α} {F : List Nat} (h : T.all wr w cs xs F) (k : Nat) (hk : k ≤ xs.length) :
    ∃ F1, T.all wr w (cs.take (k * T.size)) (xs.take k) F1 ∧ ∀ b ∈ F1, b ∈ F := by
  rcases Nat.lt_or_ge k xs.length with hlt | hge
  · obtain ⟨c, d, e, F1, F2, F3, rfl, rfl, hl, a1, _, _⟩ := Ty.all_split h k hlt
    exact ⟨F1, by rw [← hl]; simpa using a1, fun b hb => by simp [hb]⟩
  · obtain rfl : k = xs.length := by omega
    exact ⟨F, by rw [List.take_length, ← Ty.all_len h, List.take_length]; exact h, fun _ h => h⟩
end all

/-- A slice value that holds a list. -/
def Ty.row {α : Type} (T : Ty α) (wr : Bool) (w : World) (v : Value) (xs : List α) (F : List Nat) : Prop :=
  ∃ (a : Option Addr) (cap : Nat) (cs : List Value) (G : List Nat), v = .slice a xs.length cap ∧ xs.length ≤ cap ∧ cap ≤ 9223372036854775807 ∧ T.all wr w cs xs G ∧
    ((xs = [] ∧ F = []) ∨ (0 < T.size ∧ xs ≠ [] ∧ ∃ b off, a = some ⟨b, off, none⟩ ∧ F = b :: G ∧ ∀ j (hj : j < cs.length), cellIs wr w b (off + j) cs[j]))

theorem Ty.row_lt {α : Type} {T : Ty α} {wr : Bool} {w : World} {v : Value} {xs : List α} {F : List Nat} (h : T.row wr w v xs F) : ∀ b ∈ F, b < w.heap.size := by
  obtain ⟨a, cap, cs, G, rfl, _, _, hall, h | ⟨hs, hne, b, off, rfl, rfl, hc⟩⟩ := h
  · obtain ⟨_, rfl⟩ := h; simp
  · intro b' hb'
    rcases List.mem_cons.1 hb' with rfl | hb'
    · have hl := Ty.all_len hall
      have hp : 0 < xs.length := List.length_pos_iff.2 hne
      exact (hc 0 (by rw [hl]; exact Nat.mul_pos hp hs)).lt
    · exact Ty.all_lt hall _ hb'
theorem Ty.row_keep {α : Type} {T : Ty α} {wr : Bool} {w w' : World} {v : Value} {xs : List α} {F : List Nat} (h : T.row wr w v xs F) (hk : ∀ b ∈ F, w'.heap[b]? = w.heap[b]?) : T.row wr w' v xs F := by
  obtain ⟨a, cap, cs, G, rfl, h1, h2, hall, h | ⟨hs, hne, b, off, rfl, rfl, hc⟩⟩ := h
  · obtain ⟨rfl, rfl⟩ := h
    exact ⟨a, cap, [], [], rfl, h1, h2, ⟨rfl, rfl⟩, .inl ⟨rfl, rfl⟩⟩
  · exact ⟨_, cap, cs, G, rfl, h1, h2, Ty.all_keep hall fun b' hb' => hk b' (List.mem_cons_of_mem _ hb'), .inr ⟨hs, hne, b, off, rfl, rfl, fun j hj => (hc j hj).keep (hk b List.mem_cons_self)⟩⟩
theorem Ty.row_down {α : Type} {T : Ty α} {wr : Bool} {w : World} {v : Value} {xs : List α} {F : List Nat} (h : T.row wr w v xs F) : T.row false w v xs F := by
  obtain ⟨a, cap, cs, G, rfl, h1, h2, hall, h | ⟨hs, hne, b, off, rfl, rfl, hc⟩⟩ := h
  · exact ⟨a, cap, cs, G, rfl, h1, h2, Ty.all_down hall, .inl h⟩
  · exact ⟨_, cap, cs, G, rfl, h1, h2, Ty.all_down hall, .inr ⟨hs, hne, b, off, rfl, rfl, fun j hj => (hc j hj).down⟩⟩

def Ty.slice {α : Type} (T : Ty α) : Ty (List α) where
  size := 1
  rep wr w cs xs F := ∃ v, cs = [v] ∧ T.row wr w v xs F
  len h := by obtain ⟨v, rfl, _⟩ := h; rfl
  lt h := by obtain ⟨v, _, h⟩ := h; exact Ty.row_lt h
  keep h hk := by obtain ⟨v, e, h⟩ := h; exact ⟨v, e, Ty.row_keep h hk⟩
  down h := by obtain ⟨v, e, h⟩ := h; exact ⟨v, e, Ty.row_down h⟩

theorem Ty.row_below {α : Type} {T : Ty α} {wr : Bool} {w w' : World} {B : Nat} {v : Value} {xs : List α} {F : List Nat} (h : T.row wr w v xs F) (hb : Below B w w') (hF : ∀ b ∈ F, b < B) : T.row wr w' v xs F :=
  Ty.row_keep h fun b hm => hb.block b (hF b hm)
theorem Ty.row_grow {α : Type} {T : Ty α} {wr : Bool} {w w' : World} {v : Value} {xs : List α} {F : List Nat} (h : T.row wr w v xs F) (hb : Below w.heap.size w w') : T.row wr w' v xs F :=
  Ty.row_below h hb (Ty.row_lt h)
/-- A slice that is not empty: its head, and its cells. -/
theorem Ty.row_view {α : Type} {T : Ty α} {wr : Bool} {w : World} {v : Value} {xs : List α} {F : List Nat} (h : T.row wr w v xs F) (hne : xs ≠ []) :
    ∃ b off cap cs G, v = .slice (some ⟨b, off, none⟩) xs.length cap ∧ xs.length ≤ cap ∧ cap ≤ 9223372036854775807 ∧ T.all wr w cs xs G ∧ F = b :: G ∧ ∀ j (hj : j < cs.length), cellIs wr w b (off + j) cs[j] := by
  obtain ⟨a, cap, cs, G, rfl, h1, h2, hall, ⟨e, _⟩ | ⟨hs, hne, b, off, rfl, rfl, hc⟩⟩ := h
  · exact absurd e hne
  · exact ⟨b, off, cap, cs, G, rfl, h1, h2, hall, rfl, hc⟩
theorem Ty.row_len {α : Type} {T : Ty α} {wr : Bool} {w : World} {v : Value} {xs : List α} {F : List Nat} (h : T.row wr w v xs F) : ∃ a cap, v = .slice a xs.length cap ∧ xs.length ≤ cap ∧ cap ≤ 9223372036854775807 := by
  obtain ⟨a, cap, cs, G, rfl, h1, h2, _⟩ := h
  exact ⟨a, cap, rfl, h1, h2⟩
theorem Ty.row_nil {α : Type} (T : Ty α) (wr : Bool) (w : World) (a : Option Addr) (cap : Nat) (h : cap ≤ 9223372036854775807) : T.row wr w (.slice a 0 cap) [] [] :=
  ⟨a, cap, [], [], rfl, Nat.zero_le _, h, ⟨rfl, rfl⟩, .inl ⟨rfl, rfl⟩⟩

/-- From the guide's owned row, its elements' own blocks beside it. -/
theorem Ty.row_of_owns {α : Type} {T : Ty α} {w : World} {base : Nat} {e : TypeId} {size : Nat} {v : Value} {xs : List α} {cs : List Value} {G : List Nat} (h : w.ownsRow base e size v xs.length cs) (hT : T.size = size) (hs : 0 < size)
    (hall : T.all true w cs xs G) :
    ∃ F, T.row true w v xs F ∧ (F = [] ∨ ∃ g, base ≤ g ∧ g < w.heap.size ∧ v.ownBlock = some g ∧ F = g :: G) ∧ (xs ≠ [] → F ≠ []) := by
  obtain ⟨hl, ⟨rfl, h0⟩ | ⟨g, cap, cur, rfl, hg, hh, hn, hm, hcs, ht⟩⟩ := h
  · have : xs = [] := List.length_eq_zero_iff.1 h0
    subst this
    exact ⟨[], Ty.row_nil _ _ _ _ _ (by omega), .inl rfl, by simp⟩
  · rcases Nat.eq_zero_or_pos xs.length with h0 | h0
    · have : xs = [] := List.length_eq_zero_iff.1 h0
      subst this
      exact ⟨[], Ty.row_nil _ _ _ _ _ ((by unfold maxLen at hm; omega)), .inl rfl, by simp⟩
    · have hlt : g < w.heap.size := by
        rcases Nat.lt_or_ge g w.heap.size with h | h
        · exact h
        · simp [Array.getElem?_eq_none h] at hh
      refine ⟨g :: G, ⟨_, cap, cs, G, rfl, hn, (by unfold maxLen at hm; omega), hall, .inr ⟨by omega, by rintro rfl; simp at h0, g, 0, rfl, rfl, fun j hj => ⟨?_, fun _ => ?_⟩⟩⟩, .inr ⟨g, hg, hlt, rfl, rfl⟩, by simp⟩
      · have hj' : j < cur.size := by
          rw [← ht] at hj
          simp at hj
          omega
        have e1 : cs[j] = cur[j] := by
          subst ht
          simp
        simp only [World.cell?, hh, Nat.zero_add]
        rw [e1]
        simp [hj']
      · simp [World.frozen?, hh]
end Go.Proofs.YtahbepajeplcmaaGreatDoor

/- Memory facts: what a call has written; rows of ints. No program in sight. -/
namespace Go.Proofs.YtahbepajeplcmaaGreatDoor
open Go.RowKit

/-- Of the blocks that were there none but those of F has turned. -/
structure Chg (F : List Nat) (w w' : World) : Prop where
  os : w'.os = w.os
  tape : w'.tape = w.tape
  output : w'.output = w.output
  size : w.heap.size ≤ w'.heap.size
  block : ∀ k, k < w.heap.size → k ∉ F → w'.heap[k]? = w.heap[k]?
theorem Chg.refl (F : List Nat) (w : World) : Chg F w w := ⟨rfl, rfl, rfl, Nat.le_refl _, fun _ _ _ => rfl⟩
theorem Chg.of_below {F : List Nat} {w w' : World} (h : Below w.heap.size w w') : Chg F w w' := ⟨h.os, h.tape, h.output, h.size, fun k hk _ => h.block k hk⟩
theorem Chg.mono {F G : List Nat} {w w' : World} (h : Chg F w w') (hs : ∀ b ∈ F, b ∈ G) : Chg G w w' := ⟨h.os, h.tape, h.output, h.size, fun k hk hn => h.block k hk fun hm => hn (hs k hm)⟩
theorem Chg.trans {F : List Nat} {a b c : World} (h : Chg F a b) (k : Chg F b c) : Chg F a c :=
  ⟨k.os.trans h.os, k.tape.trans h.tape, k.output.trans h.output, Nat.le_trans h.size k.size, fun i hi hn => (k.block i (Nat.lt_of_lt_of_le hi h.size) hn).trans (h.block i hi hn)⟩
theorem Chg.then {F : List Nat} {a b c : World} (h : Chg F a b) (k : Below b.heap.size b c) : Chg F a c := h.trans (.of_below k)
theorem Chg.alloc {F : List Nat} {a w : World} (h : Chg F a w) (o : Obj) : Chg F a (w.alloc o) := h.then (bal (bb _) o)
theorem Chg.set {F : List Nat} {a w : World} (h : Chg F a w) {p : Addr} (hp : p.block ∈ F) (u : Value) : Chg F a (w.setCell p u) :=
  h.trans ⟨rfl, rfl, rfl, by simp [World.setCell], fun k _ hn => Below.heap_setCell _ _ _ _ (fun e => hn (e ▸ hp))⟩
theorem Chg.below {F : List Nat} {B : Nat} {w w' : World} (h : Chg F w w') (hB : B ≤ w.heap.size) (hF : ∀ b ∈ F, B ≤ b) : Below B w w' :=
  ⟨h.os, h.tape, h.output, h.size, fun k hk => h.block k (Nat.lt_of_lt_of_le hk hB) fun hm => Nat.not_lt.2 (hF k hm) hk⟩
theorem Chg.row {α : Type} {T : Ty α} {F G : List Nat} {wr : Bool} {w w' : World} {v : Value} {xs : List α} (h : Chg F w w') (hr : T.row wr w v xs G) (hd : ∀ b ∈ G, b ∉ F) : T.row wr w' v xs G :=
  Ty.row_keep hr fun b hb => h.block b (Ty.row_lt hr b hb) (hd b hb)

theorem Ty.all_int {wr : Bool} {w : World} : ∀ {xs : List Int}, (∀ x ∈ xs, I64 x) → Ty.int.all wr w (xs.map (.int .i64)) xs []
  | [], _ => ⟨rfl, rfl⟩
  | x :: xs, h => ⟨[.int .i64 x], xs.map (.int .i64), [], [], rfl, rfl, ⟨rfl, h x List.mem_cons_self, rfl⟩, Ty.all_int fun y hy => h y (List.mem_cons_of_mem _ hy)⟩
theorem Ty.all_int_inv {wr : Bool} {w : World} : ∀ {cs : List Value} {xs : List Int} {F : List Nat}, Ty.int.all wr w cs xs F → cs = xs.map (.int .i64) ∧ F = [] ∧ ∀ x ∈ xs, I64 x
  | _, [], _, h => ⟨h.1, h.2, by simp⟩
  | _, x :: xs, _, h => by
    obtain ⟨c, d, F1, F2, rfl, rfl, ⟨rfl, hx, rfl⟩, h2⟩ := h
    obtain ⟨rfl, rfl, h3⟩ := Ty.all_int_inv h2
    exact ⟨rfl, rfl, fun y hy => by rcases List.mem_cons.1 hy with rfl | hy; exact hx; exact h3 y hy⟩
/-- A row of ints: nil or empty; or its cells. -/
theorem row_int {wr : Bool} {w : World} {v : Value} {xs : List Int} {F : List Nat} (h : Ty.int.row wr w v xs F) :
    ∃ a cap, v = .slice a xs.length cap ∧ xs.length ≤ cap ∧ cap ≤ 9223372036854775807 ∧ (∀ x ∈ xs, I64 x) ∧
      ((xs = [] ∧ F = []) ∨ (xs ≠ [] ∧ ∃ b off, a = some ⟨b, off, none⟩ ∧ F = [b] ∧ ∀ j (hj : j < xs.length), cellIs wr w b (off + j) (.int .i64 xs[j]))) := by
  obtain ⟨a, cap, cs, G, rfl, h1, h2, hall, h⟩ := h
  obtain ⟨rfl, rfl, hi⟩ := Ty.all_int_inv hall
  refine ⟨a, cap, rfl, h1, h2, hi, h.imp id ?_⟩
  rintro ⟨_, hne, b, off, rfl, rfl, hc⟩
  exact ⟨hne, b, off, rfl, rfl, fun j hj => by have := hc j (by simpa using hj); simpa using this⟩
theorem row_int_mk {wr : Bool} {w : World} {b off cap : Nat} {xs : List Int} (hi : ∀ x ∈ xs, I64 x) (h1 : xs.length ≤ cap) (h2 : cap ≤ 9223372036854775807) (hne : xs ≠ [])
    (hc : ∀ j (hj : j < xs.length), cellIs wr w b (off + j) (.int .i64 xs[j])) : Ty.int.row wr w (.slice (some ⟨b, off, none⟩) xs.length cap) xs [b] :=
  ⟨_, cap, xs.map (.int .i64), [], rfl, h1, h2, Ty.all_int hi, .inr ⟨by decide, hne, b, off, rfl, rfl, fun j hj => by simpa using hc j (by simpa using hj)⟩⟩

/-- m, m+1, ..: n numbers. -/
def marks (m : Int) (n : Nat) : List Int := (List.range n).map fun (j : Nat) => m + (j : Int)
theorem marks_length (m : Int) (n : Nat) : (marks m n).length = n := by simp [marks]
theorem marks_get (m : Int) (n j : Nat) (h : j < (marks m n).length) : (marks m n)[j] = m + j := by simp [marks]
theorem marks_i64 {m : Int} {n : Nat} (h0 : 0 ≤ m) (h1 : m + n ≤ 1000000000000000000) : ∀ x ∈ marks m n, I64 x := by
  intro x hx
  simp only [marks, List.mem_map, List.mem_range] at hx
  obtain ⟨j, hj, rfl⟩ := hx
  unfold I64; omega
end Go.Proofs.YtahbepajeplcmaaGreatDoor

/- Memory in parts that do not meet: what a call has made. No program in sight. -/
namespace Go.Proofs.YtahbepajeplcmaaGreatDoor
open Go.RowKit

/-- A part of the memory, with the blocks that it reaches. -/
structure Asn where
  p : World → List Nat → Prop
  lt : ∀ {w F}, p w F → ∀ b ∈ F, b < w.heap.size
  keep : ∀ {w w' F}, p w F → (∀ b ∈ F, w'.heap[b]? = w.heap[b]?) → p w' F

/-- All the parts, no two of which meet. -/
def sep : List Asn → World → List Nat → Prop
  | [], _, F => F = []
  | q :: ps, w, F => ∃ F1 F2, F = F1 ++ F2 ∧ (∀ b ∈ F1, b ∉ F2) ∧ q.p w F1 ∧ sep ps w F2

theorem sep_lt {w : World} : ∀ {ps : List Asn} {F : List Nat}, sep ps w F → ∀ b ∈ F, b < w.heap.size
  | [], _, h => by subst h; simp
  | q :: ps, _, h => by
    obtain ⟨F1, F2, rfl, _, h1, h2⟩ := h
    intro b hb
    rcases List.mem_append.1 hb with hb | hb
    · exact q.lt h1 b hb
    · exact sep_lt h2 b hb
theorem sep_keep {w w' : World} : ∀ {ps : List Asn} {F : List Nat}, sep ps w F → (∀ b ∈ F, w'.heap[b]? = w.heap[b]?) → sep ps w' F
  | [], _, h, _ => h
  | q :: ps, _, h, hk => by
    obtain ⟨F1, F2, rfl, hd, h1, h2⟩ := h
    exact ⟨F1, F2, rfl, hd, q.keep h1 fun b hb => hk b (List.mem_append.2 (.inl hb)), sep_keep h2 fun b hb => hk b (List.mem_append.2 (.inr hb))⟩
theorem sep_upd {w : World} : ∀ {ps : List Asn} {F : List Nat} {i : Nat} {q : Asn}, sep ps w F → ps[i]? = some q →
    ∃ Fi, q.p w Fi ∧ (∀ b ∈ Fi, b ∈ F) ∧ ∀ w' q' Fi', Chg Fi w w' → q'.p w' Fi' → (∀ b ∈ Fi', b ∈ Fi ∨ w.heap.size ≤ b) → ∃ F', sep (ps.set i q') w' F' ∧ ∀ b ∈ F', b ∈ F ∨ w.heap.size ≤ b
  | [], _, _, _, _, h => by simp at h
  | q :: ps, _, 0, q0, h, hi => by
    obtain ⟨F1, F2, rfl, hd, h1, h2⟩ := h
    simp at hi; subst hi
    refine ⟨F1, h1, fun b hb => List.mem_append.2 (.inl hb), fun w' q' Fi' hc hq hF => ⟨Fi' ++ F2, ⟨Fi', F2, rfl, fun b hb hb2 => ?_, hq, sep_keep h2 fun b hb => hc.block b (sep_lt h2 b hb) fun hb1 => hd b hb1 hb⟩, fun b hb => ?_⟩⟩
    · rcases hF b hb with h | h
      · exact hd b h hb2
      · have := sep_lt h2 b hb2; omega
    · rcases List.mem_append.1 hb with hb | hb
      · exact (hF b hb).imp (fun h => List.mem_append.2 (.inl h)) id
      · exact .inl (List.mem_append.2 (.inr hb))
  | q :: ps, _, i + 1, q0, h, hi => by
    obtain ⟨F1, F2, rfl, hd, h1, h2⟩ := h
    obtain ⟨Fi, hp, hsub, hall⟩ := sep_upd (i := i) (q := q0) h2 (by simpa using hi)
    refine ⟨Fi, hp, fun b hb => List.mem_append.2 (.inr (hsub b hb)), fun w' q' Fi' hc hq hF => ?_⟩
    obtain ⟨F', hs, hF'⟩ := hall w' q' Fi' hc hq hF
    refine ⟨F1 ++ F', ⟨F1, F', rfl, fun b hb hb2 => ?_, q.keep h1 fun b hb => hc.block b (q.lt h1 b hb) fun hbi => hd b hb (hsub b hbi), hs⟩, fun b hb => ?_⟩
    · rcases hF' b hb2 with h | h
      · exact hd b hb h
      · have := q.lt h1 b hb; omega
    · rcases List.mem_append.1 hb with hb | hb
      · exact .inl (List.mem_append.2 (.inl hb))
      · exact (hF' b hb).imp (fun h => List.mem_append.2 (.inr h)) id

/-- Since w0 nothing old has turned; of what is new these are the parts. -/
def Sp (w0 w : World) (ps : List Asn) : Prop := Below w0.heap.size w0 w ∧ ∃ F, sep ps w F ∧ ∀ b ∈ F, w0.heap.size ≤ b

section
variable {w0 w w' : World} {ps : List Asn} {i : Nat} {q : Asn}
theorem Sp.start (w : World) : Sp w w [] := ⟨bb _, [], rfl, by simp⟩
theorem Sp.of_below (h : Below w0.heap.size w0 w) : Sp w0 w [] := ⟨h, [], rfl, by simp⟩
theorem Sp.below (h : Sp w0 w ps) : Below w0.heap.size w0 w := h.1
theorem Sp.grow (h : Sp w0 w ps) (hb : Below w.heap.size w w') : Sp w0 w' ps := by
  obtain ⟨h1, F, h2, h3⟩ := h
  exact ⟨btr h1 hb, F, sep_keep h2 fun b hm => hb.block b (sep_lt h2 b hm), h3⟩
theorem Sp.drew (h : Sp w0 w ps) : Sp w0 w.drew ps := h.grow (bdr (bb _))
theorem Sp.alloc (h : Sp w0 w ps) (o : Obj) : Sp w0 (w.alloc o) ps := h.grow (bal (bb _) o)
theorem Sp.upd (h : Sp w0 w ps) (hi : ps[i]? = some q) : ∃ Fi, q.p w Fi ∧ (∀ b ∈ Fi, w0.heap.size ≤ b) ∧
    ∀ w' q' Fi', Chg Fi w w' → q'.p w' Fi' → (∀ b ∈ Fi', b ∈ Fi ∨ w.heap.size ≤ b) → Sp w0 w' (ps.set i q') := by
  obtain ⟨h1, F, h2, h3⟩ := h
  obtain ⟨Fi, hp, hsub, hall⟩ := sep_upd h2 hi
  refine ⟨Fi, hp, fun b hb => h3 b (hsub b hb), fun w' q' Fi' hc hq hF => ?_⟩
  obtain ⟨F', hs, hF'⟩ := hall w' q' Fi' hc hq hF
  exact ⟨h1.trans (hc.below h1.size fun b hb => h3 b (hsub b hb)), F', hs, fun b hb => (hF' b hb).elim (h3 b) (Nat.le_trans h1.size)⟩
theorem Sp.get (h : Sp w0 w ps) (hi : ps[i]? = some q) : ∃ Fi, q.p w Fi ∧ (∀ b ∈ Fi, w0.heap.size ≤ b) := by
  obtain ⟨Fi, h1, h2, _⟩ := h.upd hi
  exact ⟨Fi, h1, h2⟩
theorem Sp.new {F : List Nat} (h : Sp w0 w ps) (hb : Below w.heap.size w w') (hq : q.p w' F) (hF : ∀ b ∈ F, w.heap.size ≤ b) : Sp w0 w' (q :: ps) := by
  obtain ⟨h1, G, h2, h3⟩ := h
  have h4 := sep_keep h2 fun b hm => hb.block b (sep_lt h2 b hm)
  refine ⟨btr h1 hb, F ++ G, ⟨F, G, rfl, fun b hb1 hb2 => ?_, hq, h4⟩, fun b hm => ?_⟩
  · have := hF b hb1; have := sep_lt h2 b hb2; omega
  · rcases List.mem_append.1 hm with hm | hm
    · exact Nat.le_trans h1.size (hF b hm)
    · exact h3 b hm
theorem Sp.tail (h : Sp w0 w (q :: ps)) : Sp w0 w ps := by
  obtain ⟨h1, F, ⟨F1, F2, rfl, _, _, h2⟩, h3⟩ := h
  exact ⟨h1, F2, h2, fun b hb => h3 b (List.mem_append.2 (.inr hb))⟩
theorem Sp.head (h : Sp w0 w (q :: ps)) : ∃ F, q.p w F ∧ ∀ b ∈ F, w0.heap.size ≤ b := by
  obtain ⟨h1, F, ⟨F1, F2, rfl, _, h2, _⟩, h3⟩ := h
  exact ⟨F1, h2, fun b hb => h3 b (List.mem_append.2 (.inl hb))⟩
theorem Sp.swap {q' : Asn} (h : Sp w0 w (q :: q' :: ps)) : Sp w0 w (q' :: q :: ps) := by
  obtain ⟨h1, F, ⟨F1, F2, rfl, hd, h2, F3, F4, rfl, hd', h4, h5⟩, h3⟩ := h
  refine ⟨h1, F3 ++ (F1 ++ F4), ⟨F3, F1 ++ F4, rfl, fun b hb hb2 => ?_, h4, F1, F4, rfl, fun b hb hb2 => hd b hb (List.mem_append.2 (.inr hb2)), h2, h5⟩, fun b hb => h3 b ?_⟩
  · rcases List.mem_append.1 hb2 with h | h
    · exact hd b h (List.mem_append.2 (.inl hb))
    · exact hd' b hb h
  · simp only [List.mem_append] at hb ⊢
    rcases hb with h | h | h
    · exact .inr (.inl h)
    · exact .inl h
    · exact .inr (.inr h)
end

/-- A block that is known whole. -/
def Box (b : Nat) (t : TypeId) (cs : Array Value) : Asn where
  p w F := F = [b] ∧ w.heap[b]? = some (.cells cs t (0, 0))
  lt := by
    rintro w F ⟨rfl, h⟩ b' hb
    obtain rfl : b' = b := by simpa using hb
    rcases Nat.lt_or_ge b' w.heap.size with h' | h'
    · exact h'
    · rw [Array.getElem?_eq_none h'] at h; cases h
  keep := by
    rintro w w' F ⟨rfl, h⟩ hk
    exact ⟨rfl, (hk b (by simp)).trans h⟩

section
variable {w0 w w' : World} {ps : List Asn} {i b o : Nat} {t : TypeId} {cs : Array Value}
theorem Sp.box (h : Sp w0 w ps) (hi : ps[i]? = some (Box b t cs)) : w0.heap.size ≤ b ∧ b < w.heap.size ∧ w.heap[b]? = some (.cells cs t (0, 0)) := by
  obtain ⟨F, hp, hF⟩ := h.get hi
  have hlt := (Box b t cs).lt hp b
  obtain ⟨rfl, hh⟩ := hp
  exact ⟨hF b (by simp), hlt (by simp), hh⟩
theorem Sp.cell (h : Sp w0 w ps) (hi : ps[i]? = some (Box b t cs)) {u : Value} (ho : cs[o]? = some u) : w.cell? ⟨b, o, none⟩ = some u := by
  simp [World.cell?, (h.box hi).2.2, ho]
theorem Sp.frozen (h : Sp w0 w ps) (hi : ps[i]? = some (Box b t cs)) (o : Nat) : w.frozen? ⟨b, o, none⟩ = false := by
  simp [World.frozen?, (h.box hi).2.2]
theorem Sp.store (h : Sp w0 w ps) (hi : ps[i]? = some (Box b t cs)) (o : Nat) (u : Value) : Sp w0 (w.setCell ⟨b, o, none⟩ u) (ps.set i (Box b t (cs.setIfInBounds o u))) := by
  obtain ⟨F, ⟨rfl, hh⟩, hF, hall⟩ := h.upd hi
  refine hall _ _ [b] ((Chg.refl _ _).set (by simp) _) ⟨rfl, ?_⟩ (fun b hb => .inl hb)
  simp [World.setCell, Array.getElem?_modify, hh]
theorem Sp.alloc_box (h : Sp w0 w ps) (cs : Array Value) (t : TypeId) : Sp w0 (w.alloc (.cells cs t)) (Box w.heap.size t cs :: ps) :=
  h.new (bal (bb _) _) (F := [w.heap.size]) ⟨rfl, heap_alloc_new w _⟩ (by simp)
end

theorem owns_keep {w w' : World} {B : Nat} {e : TypeId} {size : Nat} {v : Value} {n : Nat} {xs : List Value} (h : w.ownsRow B e size v n xs) (hk : ∀ g, v.ownBlock = some g → w'.heap[g]? = w.heap[g]?) : w'.ownsRow B e size v n xs := by
  obtain ⟨hl, h | ⟨g, cap, cur, rfl, hg, hh, r⟩⟩ := h
  · exact ⟨hl, .inl h⟩
  · exact ⟨hl, .inr ⟨g, cap, cur, rfl, hg, (hk g rfl).trans hh, r⟩⟩
theorem owns_lt {w : World} {B : Nat} {e : TypeId} {size : Nat} {v : Value} {n : Nat} {xs : List Value} (h : w.ownsRow B e size v n xs) {g : Nat} (hg : v.ownBlock = some g) : g < w.heap.size := by
  obtain ⟨hl, ⟨rfl, _⟩ | ⟨g', cap, cur, rfl, _, hh, r⟩⟩ := h
  · cases hg
  · obtain rfl : g' = g := by simpa [Value.ownBlock] using hg
    rcases Nat.lt_or_ge g' w.heap.size with h' | h'
    · exact h'
    · rw [Array.getElem?_eq_none h'] at hh; cases hh

/-- A row of the call's own. -/
def Own (e : TypeId) (size : Nat) (v : Value) (n : Nat) (xs : List Value) : Asn where
  p w F := F = v.ownBlock.toList ∧ w.ownsRow 0 e size v n xs
  lt := by
    rintro w F ⟨rfl, h⟩ b hb
    exact owns_lt h (by simpa using hb)
  keep := by
    rintro w w' F ⟨rfl, h⟩ hk
    exact ⟨rfl, owns_keep h fun g hg => hk g (by simp [hg])⟩

section
variable {w0 w w1 w' : World} {ps : List Asn} {i n n' size : Nat} {e : TypeId} {v v' : Value} {xs xs' : List Value}
theorem Sp.own (h : Sp w0 w ps) (hi : ps[i]? = some (Own e size v n xs)) : w.ownsRow 0 e size v n xs := by
  obtain ⟨F, hp, _⟩ := h.get hi
  exact hp.2
/-- Behind an append to an own row. -/
theorem Sp.own_push (h : Sp w0 w ps) (hi : ps[i]? = some (Own e size v n xs)) (hb : Below w.heap.size w w1) (ho : w'.ownsRow 0 e size v' n' xs') (hg : w1.grownBy w' v.ownBlock)
    (hat : v'.ownBlock = v.ownBlock ∨ v'.ownBlock = some w1.heap.size) : Sp w0 w' (ps.set i (Own e size v' n' xs')) := by
  obtain ⟨F, ⟨rfl, hh⟩, hF, hall⟩ := h.upd hi
  refine hall w' _ v'.ownBlock.toList ?_ ⟨rfl, ho⟩ fun b hm => ?_
  · exact ⟨hg.os.trans hb.os, hg.tape.trans hb.tape, hg.output.trans hb.output, Nat.le_trans hb.size hg.size, fun k hk hn =>
      (hg.block k (Nat.lt_of_lt_of_le hk hb.size) (fun e => hn (by simp [← e]))).trans (hb.block k hk)⟩
  · rcases hat with h1 | h1
    · exact .inl (by rw [h1] at hm; exact hm)
    · rw [h1] at hm
      obtain rfl : b = w1.heap.size := by simpa using hm
      exact .inr hb.size
/-- A new own row. -/
theorem Sp.own_new (h : Sp w0 w ps) (hb : Below w.heap.size w w') (ho : w'.ownsRow 0 e size v n xs) (hv : ∀ g, v.ownBlock = some g → w.heap.size ≤ g) : Sp w0 w' (Own e size v n xs :: ps) :=
  h.new hb (F := v.ownBlock.toList) ⟨rfl, ho⟩ fun b hm => hv b (by simpa using hm)
theorem Sp.own_nil (h : Sp w0 w ps) (e : TypeId) (size : Nat) : Sp w0 w (Own e size (.slice none 0 0) 0 [] :: ps) :=
  h.own_new (bb _) (World.ownsRow_nil _ _ _ _) (fun g hg => by cases hg)
theorem Sp.own_made (h : Sp w0 w ps) (e : TypeId) (size : Nat) : Sp w0 (w.alloc (.cells #[] e)) (Own e size (.slice (some ⟨w.heap.size, 0, none⟩) 0 0) 0 [] :: ps) :=
  h.own_new (bal (bb _) _) ⟨by simp, .inr ⟨w.heap.size, 0, #[], rfl, Nat.zero_le _, heap_alloc_new w _, Nat.le_refl _, by decide, by simp, by simp⟩⟩ (fun g hg => by
    have : w.heap.size = g := by simpa [Value.ownBlock] using hg
    omega)
end

/-- A row with all that it reaches, all of it the call's own. -/
def Row {α : Type} (T : Ty α) (v : Value) (xs : List α) : Asn where
  p w F := T.row true w v xs F ∧ F.Nodup
  lt h := Ty.row_lt h.1
  keep h hk := ⟨Ty.row_keep h.1 hk, h.2⟩

/-- An own row of own rows, as far as it has grown. -/
def Rows {α : Type} (T : Ty α) (e : TypeId) (v : Value) (cs : List Value) (xss : List (List α)) : Asn where
  p w F := ∃ G, F = v.ownBlock.toList ++ G ∧ F.Nodup ∧ (Ty.slice T).all true w cs xss G ∧ w.ownsRow 0 e 1 v xss.length cs
  lt := by
    rintro w F ⟨G, rfl, _, h1, h2⟩ b hb
    rcases List.mem_append.1 hb with hb | hb
    · exact owns_lt h2 (by simpa using hb)
    · exact Ty.all_lt h1 b hb
  keep := by
    rintro w w' F ⟨G, rfl, h0, h1, h2⟩ hk
    exact ⟨G, rfl, h0, Ty.all_keep h1 fun b hb => hk b (List.mem_append.2 (.inr hb)), owns_keep h2 fun g hg => hk g (by simp [hg])⟩

section
variable {α : Type} {T : Ty α} {w0 w w1 w' : World} {ps : List Asn} {i : Nat} {e : TypeId} {v v' u : Value} {cs : List Value} {xss : List (List α)} {ys : List α}
theorem Sp.row_new {xs : List α} {F : List Nat} (h : Sp w0 w ps) (hb : Below w.heap.size w w') (hr : T.row true w' v xs F) (hn : F.Nodup) (hF : ∀ b ∈ F, w.heap.size ≤ b) : Sp w0 w' (Row T v xs :: ps) := h.new hb ⟨hr, hn⟩ hF
theorem Sp.rows (h : Sp w0 w ps) (hi : ps[i]? = some (Rows T e v cs xss)) : w.ownsRow 0 e 1 v xss.length cs := by
  obtain ⟨F, ⟨G, _, _, _, h⟩, _⟩ := h.get hi
  exact h
theorem Sp.rows_nil (h : Sp w0 w ps) (T : Ty α) (e : TypeId) : Sp w0 w (Rows T e (.slice none 0 0) [] [] :: ps) :=
  h.new (F := []) (bb _) ⟨[], rfl, by simp, ⟨rfl, rfl⟩, World.ownsRow_nil _ _ _ _⟩ (by simp)
theorem Sp.rows_made (h : Sp w0 w ps) (T : Ty α) (e : TypeId) : Sp w0 (w.alloc (.cells #[] e)) (Rows T e (.slice (some ⟨w.heap.size, 0, none⟩) 0 0) [] [] :: ps) :=
  h.new (F := [w.heap.size]) (bal (bb _) _) ⟨[], rfl, by simp, ⟨rfl, rfl⟩, ⟨by simp, .inr ⟨w.heap.size, 0, #[], rfl, Nat.zero_le _, heap_alloc_new w _, Nat.le_refl _, by decide, by simp, by simp⟩⟩⟩ (by simp)
/-- A row goes into a row of rows. -/
theorem Sp.rows_push (h : Sp w0 w (Row T u ys :: Rows T e v cs xss :: ps)) (hb : Below w.heap.size w w1) (ho : w'.ownsRow 0 e 1 v' (xss.length + 1) (cs ++ [u])) (hg : w1.grownBy w' v.ownBlock)
    (hat : v'.ownBlock = v.ownBlock ∨ v'.ownBlock = some w1.heap.size) : Sp w0 w' (Rows T e v' (cs ++ [u]) (xss ++ [ys]) :: ps) := by
  obtain ⟨h1, F, ⟨F1, F2, rfl, hd, ⟨hr, hn⟩, ⟨F3, F4, rfl, hd', ⟨G, rfl, hn', hall, hown⟩, h5⟩⟩, h3⟩ := h
  have hr1 := Ty.row_keep hr fun b hm => hb.block b (Ty.row_lt hr b hm)
  have hall1 := Ty.all_keep hall fun b hm => hb.block b (Ty.all_lt hall b hm)
  have h51 := sep_keep h5 fun b hm => hb.block b (sep_lt h5 b hm)
  have hkeep : ∀ b, b < w.heap.size → (∀ g, v.ownBlock = some g → b ≠ g) → w'.heap[b]? = w1.heap[b]? := fun b hlt hne => hg.block b (Nat.lt_of_lt_of_le hlt hb.size) (fun e => hne b e.symm rfl)
  have hr2 := Ty.row_keep hr1 fun b hm => hkeep b (Ty.row_lt hr b hm) fun g hg' e => hd b hm (by simp [hg', e])
  have hnG : ∀ b ∈ G, ∀ g, v.ownBlock = some g → b ≠ g := fun b hm g hg' e => by
    rw [List.nodup_append] at hn'
    exact hn'.2.2 g (by simp [hg']) b hm e.symm
  have hall2 := Ty.all_keep hall1 fun b hm => hkeep b (Ty.all_lt hall b hm) (hnG b hm)
  have h52 := sep_keep h51 fun b hm => hkeep b (sep_lt h5 b hm) fun g hg' e => hd' b (by simp [hg', e]) hm
  have hlv : ∀ b ∈ v'.ownBlock.toList, b ∈ v.ownBlock.toList ∨ b = w1.heap.size := fun b hm => by
    rcases hat with h | h
    · left; rwa [h] at hm
    · right; rw [h] at hm; simpa using hm
  have hs := hb.size
  have hbel : Below w0.heap.size w0 w' := (btr h1 hb).trans ⟨hg.os, hg.tape, hg.output, hg.size, fun k hk => hg.block k (by have := h1.size; omega) (fun e => by have := h3 k (by simp [← e]); omega)⟩
  refine ⟨hbel, (v'.ownBlock.toList ++ (G ++ F1)) ++ F4, ⟨_, F4, rfl, ?_, ⟨G ++ F1, rfl, ?_, ?_, by simpa using ho⟩, h52⟩, ?_⟩
  · intro b hm hm4
    rcases List.mem_append.1 hm with hm | hm
    · rcases hlv b hm with h | h
      · exact hd' b (List.mem_append.2 (.inl h)) hm4
      · have := sep_lt h5 b hm4; omega
    · rcases List.mem_append.1 hm with hm | hm
      · exact hd' b (List.mem_append.2 (.inr hm)) hm4
      · exact hd b hm (List.mem_append.2 (.inr hm4))
  · refine List.nodup_append.2 ⟨by cases v'.ownBlock <;> simp, List.nodup_append.2 ⟨(List.nodup_append.1 hn').2.1, hn, fun x hx y hy e => hd y hy (by simp [← e, hx])⟩, fun x hx y hy e => ?_⟩
    subst e
    rcases hlv x hx with h | h
    · rcases List.mem_append.1 hy with hy | hy
      · exact (List.nodup_append.1 hn').2.2 x h x hy rfl
      · exact hd x hy (List.mem_append.2 (.inl (List.mem_append.2 (.inl h))))
    · rcases List.mem_append.1 hy with hy | hy
      · have := Ty.all_lt hall x hy; omega
      · have := Ty.row_lt hr x hy; omega
  · exact Ty.all_snoc hall2 ⟨u, rfl, hr2⟩
  · intro b hm
    rcases List.mem_append.1 hm with hm | hm
    · rcases List.mem_append.1 hm with hm | hm
      · rcases hlv b hm with h | h
        · exact h3 b (by simp at h ⊢; simp [h])
        · have := h1.size; omega
      · rcases List.mem_append.1 hm with hm | hm
        · exact h3 b (by simp [hm])
        · exact h3 b (by simp [hm])
    · exact h3 b (by simp [hm])
/-- The finished row of rows. -/
theorem Sp.rows_done (h : Sp w0 w ps) (hi : ps[i]? = some (Rows T e v cs xss)) : ∃ F, (Ty.slice T).row true w v xss F ∧ F.Nodup ∧ (∀ b ∈ F, w0.heap.size ≤ b) := by
  obtain ⟨F, ⟨G, rfl, hn, hall, hown⟩, hF⟩ := h.get hi
  obtain ⟨F', hr, hF', _⟩ := Ty.row_of_owns hown rfl (by decide) hall
  rcases hF' with rfl | ⟨g, _, _, ho, rfl⟩
  · exact ⟨[], hr, by simp, by simp⟩
  · refine ⟨g :: G, hr, ?_, ?_⟩
    · rw [ho] at hn; simpa using hn
    · rw [ho] at hF; simpa using hF
end

/-- append to an own row, as one step of a region that draws: with the place of the new row. -/
theorem step_append_at {P : Program} {ops : Array Oper} {o : Oper} {a : Act} {w : World} {K : Act → World → Prop} {Q : Exit → Act → World → Prop} {E : Prop} (hgd : o.guard = none) (s x : Operand) (t : TypeId)
    (ho : o.op = .call { callee := .builtin .append, args := #[s, x], argTypes := #[t, t] })
    (e : TypeId) (i : TypeInfo) (z : Value) (size bytes : Nat) (ht : P.underlying t = some (.slice e)) (hi : P.info? e = some i) (hz : i.zero = some z)
    (hsize : i.size = size) (hby : i.bytes = bytes) (hzs : z.cells.size = size) (hsz : 0 < size)
    (v : Value) (n : Nat) (xs : List Value) (hs : a.eval s = v) (hown : w.ownsRow 0 e size v n xs)
    (ad : Addr) (m c : Nat) (news : List Value) (hx : a.eval x = .slice (some ad) m c) (hl : news.length = m * size) (hnews : ∀ j u, news[j]? = some u → w.cell? (ad.add j) = some u) (h1 : ∀ u ∈ news, u.oneCell' = true)
    (h63 : n + m ≤ maxLen) (hbytes : (n + m) * bytes ≤ 140737488355328)
    (h : ∀ v' w', w'.ownsRow 0 e size v' (n + m) (xs ++ news) → w.grownBy w' v.ownBlock → (v'.ownBlock = v.ownBlock ∨ v'.ownBlock = some w.heap.size) → K (a.put o.dst v') w') :
    if Region.wanted o (yielded ops a.tmps) = true then Oper.wp P o a w K Q else E := by
  have hw : Region.wanted o (yielded ops a.tmps) = true := by simp [Region.wanted, hgd]
  rw [if_pos hw]
  obtain ⟨v', w', hr, h2, h3, _, h5⟩ := run_append_own_at (P := P) w 0 t o.type e i z size bytes ht hi hz hsize hby hzs hsz v n xs hown ad m c news hl hnews h1 h63 hbytes (Nat.zero_le _)
  unfold Oper.wp execOp
  simp only [ho, resolve, invoke, builtin, Sem.run_bind, Sem.run_pure, Result.andThen_ok, List.map_toArray, List.map_cons, List.map_nil, hs, hx, hr]
  exact h v' w' h2 h3 h5
theorem wpList_append_at {P : Program} {ops : Array Oper} {rest : List Oper} {o : Oper} {a : Act} {w : World} {Q : Exit → Act → World → Prop} (hgd : o.guard = none) (s x : Operand) (t : TypeId)
    (ho : o.op = .call { callee := .builtin .append, args := #[s, x], argTypes := #[t, t] })
    (e : TypeId) (i : TypeInfo) (z : Value) (size bytes : Nat) (ht : P.underlying t = some (.slice e)) (hi : P.info? e = some i) (hz : i.zero = some z)
    (hsize : i.size = size) (hby : i.bytes = bytes) (hzs : z.cells.size = size) (hsz : 0 < size)
    (v : Value) (n : Nat) (xs : List Value) (hs : a.eval s = v) (hown : w.ownsRow 0 e size v n xs)
    (ad : Addr) (m c : Nat) (news : List Value) (hx : a.eval x = .slice (some ad) m c) (hl : news.length = m * size) (hnews : ∀ j u, news[j]? = some u → w.cell? (ad.add j) = some u) (h1 : ∀ u ∈ news, u.oneCell' = true)
    (h63 : n + m ≤ maxLen) (hbytes : (n + m) * bytes ≤ 140737488355328)
    (h : ∀ v' w', w'.ownsRow 0 e size v' (n + m) (xs ++ news) → w.grownBy w' v.ownBlock → (v'.ownBlock = v.ownBlock ∨ v'.ownBlock = some w.heap.size) → wpList P ops Q rest (a.put o.dst v') w') :
    wpList P ops Q (o :: rest) a w :=
  wpList_append_own_at w hgd s x t ho 0 e i z size bytes ht hi hz hsize hby hzs hsz v n xs hs hown ad m c news hx hl hnews h1 h63 hbytes (Nat.zero_le _) fun v' w' h1 h2 _ h3 => h v' w' h1 h2 h3
theorem cell_alloc {w : World} {a : Addr} {u : Value} (h : w.cell? a = some u) (o : Obj) : (w.alloc o).cell? a = some u :=
  (World.cell?_alloc_lt _ _ _ (World.block_lt_of_cell? _ _ h)).trans h
theorem owns_form {w : World} {B : Nat} {e : TypeId} {size : Nat} {v : Value} {n : Nat} {xs : List Value} (h : w.ownsRow B e size v n xs) : ∃ a c, v = .slice a n c := by
  obtain ⟨_, ⟨rfl, rfl⟩ | ⟨g, cap, cur, rfl, _⟩⟩ := h
  · exact ⟨_, _, rfl⟩
  · exact ⟨_, _, rfl⟩
/-- One element that has just been laid in a block of its own. -/
theorem one_new {w : World} {x : Value} {t : TypeId} {b : Nat} (hb : b = w.heap.size) : ∀ j u, [x][j]? = some u → (w.alloc (.cells #[x] t)).cell? ((⟨b, 0, none⟩ : Addr).add j) = some u := by
  subst hb; exact cell_one_new w x t

section
variable {α : Type} {T : Ty α} {w0 w w' : World} {ps : List Asn} {i : Nat} {v : Value} {xs : List α}
theorem Sp.row_at (h : Sp w0 w ps) (hi : ps[i]? = some (Row T v xs)) : ∃ F, T.row false w v xs F := by
  obtain ⟨F, ⟨h1, _⟩, _⟩ := h.get hi
  exact ⟨F, Ty.row_down h1⟩
/-- A row is written. -/
theorem Sp.mark (h : Sp w0 w ps) (hi : ps[i]? = some (Row T v xs)) : ∃ F, T.row true w v xs F ∧ F.Nodup ∧ ∀ w' ys, T.row true w' v ys F → Chg F w w' → Sp w0 w' (ps.set i (Row T v ys)) := by
  obtain ⟨F, ⟨h1, h2⟩, _, hall⟩ := h.upd hi
  exact ⟨F, h1, h2, fun w' ys hr hc => hall w' (Row T v ys) F hc ⟨hr, h2⟩ fun b hb => .inl hb⟩
end
end Go.Proofs.YtahbepajeplcmaaGreatDoor

/- A region that draws its order: loads are taken first under a condition S that the other operations keep; the last operations, which stand in one forced order (a store, an assignment), need not keep it. No program in sight. -/
namespace Go.Proofs.YtahbepajeplcmaaGreatDoor

section
variable {P : Program} {ops : Array Oper} {Q : Exit → Act → World → Prop} {md : Region.Mode} {S : World → Prop} {n : Nat} {L : Array Bool → Act → World → Prop}

/-- Whatever comes up is one of the first n; behind each S holds; behind them L. -/
def headH (P : Program) (md : Region.Mode) (ops : Array Oper) (Q : Exit → Act → World → Prop) (S : World → Prop) (n : Nat) (L : Array Bool → Act → World → Prop) : Nat → Array Bool → Act → World → Prop
  | 0, s, a, w => L s a w
  | f + 1, s, a, w => Region.ready md ops s ≠ [] ∧ ∀ i ∈ Region.ready md ops s, i < n ∧ wpOp P ops Q i (fun a' w' => S w' ∧ headH P md ops Q S n L f (s.setIfInBounds i true) a' w') a w

theorem any_of_headH {g : Nat} (hL : ∀ s a w, L s a w → wpAny P md ops Q g s a w) :
    ∀ (f : Nat) (s : Array Bool) (a : Act) (w : World), headH P md ops Q S n L f s a w → wpAny P md ops Q (f + g) s a w
  | 0, s, a, w, h => by rw [Nat.zero_add]; exact hL s a w h
  | f + 1, s, a, w, h => by
    rw [show f + 1 + g = (f + g) + 1 by omega]
    exact ⟨fun e => absurd e h.1, fun i hi => wpOp_mono (fun a' w' h' => any_of_headH hL f _ a' w' h'.2) (h.2 i hi).2⟩

theorem headH_first {i : Nat} {oi : Oper} {v : Value} (hi : ops[i]? = some oi) (hsel : ∀ (j : Nat) (o : Oper) cs b, ops[j]? = some o → o.op ≠ .select cs b)
    (hQ : ∀ c a w, Q (.panic c) (a.put oi.dst v) w → Q (.panic c) a w)
    (hs : Region.sinkB md ops n = true) (hc : Region.chainB md ops n = true) (hn : n < ops.size) (hin : i < n) (hL : ∀ s a w, L s a w → ∀ j ∈ Region.ready md ops s, n ≤ j) (f : Nat) :
    ∀ (s : Array Bool) (a : Act) (w : World), HeadInv md ops n s →
      (∀ j oj, ops[j]? = some oj → j ≠ i → s.getD j true = false → (∀ e ∈ oj.after, Region.binds md e = true → e.on ≠ i) → oi.apart ops oj = true) →
      i ∈ Region.ready md ops s → YieldsIf P ops S oi v a → S w → headH P md ops Q S n L f (s.setIfInBounds i true) (a.put oi.dst v) w → headH P md ops Q S n L (f + 1) s a w := by
  induction f with
  | zero =>
    intro s a w inv _ hr hy hS H
    refine ⟨List.ne_nil_of_mem hr, fun j hj => ?_⟩
    have hjn : j < n := Nat.lt_of_not_le fun h => tail_waits hs hc hn inv _ i rfl hin (mem_ready.1 hr).1 j h hj
    refine ⟨hjn, ?_⟩
    by_cases e : j = i
    · subst e; exact hy.wpOp hi hS ⟨hS, H⟩
    · exact absurd (hL _ _ _ H j (ready_mono hj e)) (by omega)
  | succ f ih =>
    intro s a w inv hfree hr hy hS H
    refine ⟨List.ne_nil_of_mem hr, fun j hj => ?_⟩
    have hjn : j < n := Nat.lt_of_not_le fun h => tail_waits hs hc hn inv _ i rfl hin (mem_ready.1 hr).1 j h hj
    refine ⟨hjn, ?_⟩
    by_cases e : j = i
    · subst e; exact hy.wpOp hi hS ⟨hS, H⟩
    · obtain ⟨hjs, oj, hoj, hall⟩ := mem_ready.1 hj
      have hno : ∀ e ∈ oj.after, Region.binds md e = true → e.on ≠ i := by
        intro x hx hb hxi
        have := hall x hx hb
        rw [hxi, getD_both (mem_ready.1 hr).1] at this; cases this
      have h1 := wpOp_putIf hoj (hfree j oj hoj e hjs hno) (fun cs b => hsel i oi cs b hi) (fun cs b => hsel j oj cs b hoj) hQ hy (H.2 j (ready_mono hj e)).2
      refine wpOp_mono (fun a' w' h2 => ⟨h2.2.1, ih (s.setIfInBounds j true) a' w' (inv.set hj hjn) (fun k ok hk hki hun hw => hfree k ok hk hki ?_ hw) (ready_mono hr (Ne.symm e)) h2.1 h2.2.1 ?_⟩) h1
      · by_cases hjk : j = k
        · subst hjk; exact hjs
        · rw [getD_set_ne true hjk] at hun; exact hun
      · rw [Array.setIfInBounds_comm _ _ e]; exact h2.2.2

/-- The walk's own judgement. -/
def walkT (P : Program) (md : Region.Mode) (ops : Array Oper) (Q : Exit → Act → World → Prop) (S : World → Prop) (n : Nat) (L : Array Bool → Act → World → Prop) (f : Nat) (s : Array Bool) (a : Act) (w : World) : Prop :=
  HeadInv md ops n s → headH P md ops Q S n L f s a w
/-- The checks on the region. -/
def tailOk (md : Region.Mode) (ops : Array Oper) (n : Nat) : Bool := Region.noSelect ops && decide (n < ops.size) && Region.sinkB md ops n && Region.chainB md ops n
/-- What stands behind the head: the rest in its one order. -/
def tailL (P : Program) (ops : Array Oper) (Q : Exit → Act → World → Prop) (n : Nat) (l : List Oper) (s : Array Bool) (a : Act) (w : World) : Prop :=
  Region.seqB .any ops l.length n s = true ∧ wpList P ops Q l a w

/-- Take number i first. -/
theorem walkT_take {i : Nat} {l : List Oper} {oi : Oper} {v : Value} {f : Nat} {s : Array Bool} {a : Act} {w : World} (hi : ops[i]? = some oi) (hok : tailOk .any ops n = true) (hin : i < n) (hf : Region.free .any ops s i = true)
    (hr : (Region.ready .any ops s).contains i = true) (hQ : ∀ c a w, Q (.panic c) (a.put oi.dst v) w → Q (.panic c) a w) (hy : YieldsIf P ops S oi v a) (hS : S w)
    (h : walkT P .any ops Q S n (tailL P ops Q n l) f (s.setIfInBounds i true) (a.put oi.dst v) w) : walkT P .any ops Q S n (tailL P ops Q n l) (f + 1) s a w := fun inv => by
  simp only [tailOk, Bool.and_eq_true, decide_eq_true_eq] at hok
  obtain ⟨⟨⟨hsel, hn⟩, hs⟩, hc⟩ := hok
  have hr' : i ∈ Region.ready .any ops s := by simpa using hr
  exact headH_first hi (Region.noSelect_spec hsel) hQ hs hc hn hin (fun s' a' w' hL => seqB_ready hL.1) f s a w inv (Region.free_spec hi hf) hr' hy hS (h (inv.set hr' hin))

/-- Each of the operations 'rs' comes up next. -/
def AllT (P : Program) (md : Region.Mode) (ops : Array Oper) (Q : Exit → Act → World → Prop) (S : World → Prop) (n : Nat) (L : Array Bool → Act → World → Prop) (f : Nat) (s : Array Bool) (a : Act) (w : World) (rs : List Nat) : Prop :=
  ∀ i ∈ rs, wpOp P ops Q i (fun a' w' => S w' ∧ walkT P md ops Q S n L f (s.setIfInBounds i true) a' w') a w
theorem AllT.nil {f : Nat} {s : Array Bool} {a : Act} {w : World} : AllT P md ops Q S n L f s a w [] := fun _ h => by cases h
theorem AllT.cons {f : Nat} {s : Array Bool} {a : Act} {w : World} {i : Nat} {o : Oper} {rs : List Nat} (ho : ops[i]? = some o)
    (h : ∀ K' : Act → World → Prop, Shut (∀ a w, S w → (S w → walkT P md ops Q S n L f (s.setIfInBounds i true) a w) → K' a w) → if Region.wanted o (yielded ops a.tmps) = true then Oper.wp P o a w K' Q else K' (a.put o.dst undef) w)
    (hs : AllT P md ops Q S n L f s a w rs) : AllT P md ops Q S n L f s a w (i :: rs) := fun j hj => by
  rcases List.mem_cons.1 hj with rfl | hj
  · exact wpOp_step ho (fun K' hK => h K' (fun a w hS hW => hK a w ⟨hS, hW hS⟩))
  · exact hs j hj
theorem walkT_ready {rs : List Nat} {f : Nat} {s : Array Bool} {a : Act} {w : World} (hr : Region.ready md ops s = rs) (hne : rs ≠ []) (hlt : rs.all (fun i => decide (i < n)) = true)
    (h : AllT P md ops Q S n L f s a w rs) : walkT P md ops Q S n L (f + 1) s a w := fun inv =>
  ⟨by rw [hr]; exact hne, fun i hi => by
    have hin : i < n := by simpa using List.all_eq_true.1 hlt i (hr ▸ hi)
    exact ⟨hin, wpOp_mono (fun a' w' h' => ⟨h'.1, h'.2 (inv.set hi hin)⟩) (h i (hr ▸ hi))⟩⟩
/-- The head is done. -/
theorem walkT_done {l : List Oper} {s : Array Bool} {a : Act} {w : World} (hs : Region.seqB .any ops l.length n s = true) (h : wpList P ops Q l a w) : walkT P .any ops Q S n (tailL P ops Q n l) 0 s a w := fun _ => ⟨hs, h⟩
end

/-- The beginning. -/
theorem wp_region_tail {P : Program} {S : World → Prop} {id : Nat} {Q : Exit → Act → World → Prop} {a : Act} {w : World} {l : List Oper} (n : Nat) (hm : P.follows .mixedOrders = true) (hok : tailOk .any l.toArray n = true) (hS : S w.drew)
    (h : S w.drew → walkT P .any l.toArray Q S n (tailL P l.toArray Q n (l.drop n)) n (Array.replicate l.toArray.size false) a w.drew) : (Code.region id l.toArray true).wp P Q a w := by
  have hn : n < l.length := by simp only [tailOk, Bool.and_eq_true, decide_eq_true_eq] at hok; simpa using hok.1.1.2
  have inv0 : HeadInv .any l.toArray n (Array.replicate l.toArray.size false) :=
    ⟨by simp, fun j oj _ hl => (by rw [getD_replicate_false] at hl; cases hl), fun t _ ht => getD_in (by simpa using ht) (getD_replicate_false _ _)⟩
  have hdl : (l.drop n).length = l.toArray.size - n := by simp
  refine wp_region_any hm ?_
  have H2 := any_of_headH (Q := Q) (g := l.toArray.size - n) (fun s a' w' hL => by
    have := wpAny_of_seq (md := .any) (Q' := Q) (l.drop n) n s a' w' (fun j => by simp [List.getElem?_drop]) hL.1 hL.2
    rwa [hdl] at this) _ _ _ _ (h hS inv0)
  rw [show n + (l.toArray.size - n) = l.toArray.size by simp; omega] at H2
  exact H2
/-- The same beginnings with the number of operations and the list of what has come up written out. -/
theorem wp_region_held_lit {P : Program} {S : World → Prop} {id : Nat} {Q : Exit → Act → World → Prop} {a : Act} {w : World} {l : List Oper} (N : Nat) (s0 : List Bool) (hN : l.length = N) (hs : Array.replicate l.toArray.size false = s0.toArray)
    (hm : P.follows .mixedOrders = true) (hS : S w.drew) (h : S w.drew → wpAnyH P .any l.toArray Q S N s0.toArray a w.drew) : (Code.region id l.toArray true).wp P Q a w := by
  subst hN
  refine wp_region_held_drew (S := S) hm hS fun hS' => ?_
  rw [hs]
  exact h hS'
theorem wp_region_tail_lit {P : Program} {S : World → Prop} {id : Nat} {Q : Exit → Act → World → Prop} {a : Act} {w : World} {l : List Oper} (n : Nat) (s0 : List Bool) (hs : Array.replicate l.toArray.size false = s0.toArray)
    (hm : P.follows .mixedOrders = true) (hok : tailOk .any l.toArray n = true) (hS : S w.drew)
    (h : S w.drew → walkT P .any l.toArray Q S n (tailL P l.toArray Q n (l.drop n)) n s0.toArray a w.drew) : (Code.region id l.toArray true).wp P Q a w := by
  refine wp_region_tail (S := S) n hm hok hS fun hS' => ?_
  rw [hs]
  exact h hS'
end Go.Proofs.YtahbepajeplcmaaGreatDoor

/- Contracts: the cursor that draws from bytes. -/
namespace Go.Proofs.YtahbepajeplcmaaGreatDoor
open Go.RowKit

/-- The bytes that a slice holds can be read. -/
def CodeOk (w : World) (ca : Option Addr) (cl : Nat) : Prop := ∀ j, j < cl → ∃ cb off x, ca = some ⟨cb, off, none⟩ ∧ w.cell? ⟨cb, off + j, none⟩ = some (.int .u8 x) ∧ 0 ≤ x ∧ x ≤ 255
/-- The cursor's block. -/
structure CurIs (A : Nat) (g : Nat) (ca : Option Addr) (cl cc : Nat) (w : World) : Prop where
  ok : ∃ (i : Nat) (s : Int), w.heap[g]? = some (.cells #[.slice ca cl cc, .int .i64 i, .int .u64 s] 74 (0, 0)) ∧ i ≤ A ∧ 0 ≤ s ∧ s < 18446744073709551616
  code : CodeOk w ca cl
  far : 0 < cl → ∀ a, ca = some a → a.block ≠ g
  small : cl ≤ 65536
theorem CodeOk.keep {w w' : World} {ca : Option Addr} {cl : Nat} (h : CodeOk w ca cl) (hk : ∀ a, ca = some a → w'.heap[a.block]? = w.heap[a.block]?) : CodeOk w' ca cl := fun j hj => by
  obtain ⟨cb, off, x, rfl, h1, h2⟩ := h j hj
  exact ⟨cb, off, x, rfl, (World.cell?_of_block (a := ⟨cb, off + j, none⟩) (hk ⟨cb, off, none⟩ rfl)).trans h1, h2⟩
theorem CodeOk.lt {w : World} {ca : Option Addr} {cl : Nat} (h : CodeOk w ca cl) (hl : 0 < cl) : ∀ a, ca = some a → a.block < w.heap.size := by
  obtain ⟨cb, off, x, rfl, h1, _⟩ := h 0 hl
  rintro a e
  cases e
  exact World.block_lt_of_cell? _ _ h1
theorem CodeOk.zero (w : World) (ca : Option Addr) : CodeOk w ca 0 := fun j hj => absurd hj (by omega)
theorem CodeOk.grow {w w' : World} {ca : Option Addr} {cl : Nat} (h : CodeOk w ca cl) (hb : Below w.heap.size w w') : CodeOk w' ca cl := by
  rcases Nat.eq_zero_or_pos cl with rfl | hl
  · exact .zero _ _
  · exact h.keep fun a ha => hb.block _ (h.lt hl a ha)
theorem CurIs.lt {A g : Nat} {ca : Option Addr} {cl cc : Nat} {w : World} (h : CurIs A g ca cl cc w) : g < w.heap.size := by
  obtain ⟨i, s, h, _⟩ := h.ok
  rcases Nat.lt_or_ge g w.heap.size with h' | h'
  · exact h'
  · rw [Array.getElem?_eq_none h'] at h; cases h
theorem CurIs.mono {A A' g : Nat} {ca : Option Addr} {cl cc : Nat} {w : World} (h : CurIs A g ca cl cc w) (hA : A ≤ A') : CurIs A' g ca cl cc w := by
  obtain ⟨⟨i, s, h1, h2, h3⟩, h4, h5, h6⟩ := h
  exact ⟨⟨i, s, h1, by omega, h3⟩, h4, h5, h6⟩
theorem CurIs.grow {A g : Nat} {ca : Option Addr} {cl cc : Nat} {w w' : World} (h : CurIs A g ca cl cc w) (hb : Below w.heap.size w w') : CurIs A g ca cl cc w' := by
  have hlt := h.lt
  obtain ⟨⟨i, s, h1, h2⟩, h4, h5, h6⟩ := h
  refine ⟨⟨i, s, (hb.block g hlt).trans h1, h2⟩, ?_, h5, h6⟩
  rcases Nat.eq_zero_or_pos cl with rfl | hl
  · exact .zero _ _
  · exact h4.keep fun a ha => hb.block _ (h4.lt hl a ha)
/-- A call that turns the cursor alone. -/
def CurPost (R : Value → Prop) (A g : Nat) (ca : Option Addr) (cl cc : Nat) (w : World) (e : Ending) (w' : World) : Prop := ∃ v, R v ∧ e = .returned v ∧ CurIs A g ca cl cc w' ∧ Chg [g] w w'
/-- A number in bounds. -/
def IntIn (lo hi : Int) (v : Value) : Prop := ∃ n : Int, lo ≤ n ∧ n ≤ hi ∧ v = .int .i64 n
/-- The part of the memory that the cursor is. -/
def CurA (A g : Nat) (ca : Option Addr) (cl cc : Nat) : Asn where
  p w F := F = [g] ∧ ∃ (i : Nat) (s : Int), w.heap[g]? = some (.cells #[.slice ca cl cc, .int .i64 i, .int .u64 s] 74 (0, 0)) ∧ i ≤ A ∧ 0 ≤ s ∧ s < 18446744073709551616
  lt := by
    rintro w F ⟨rfl, i, s, h, _⟩ b hb
    obtain rfl : b = g := by simpa using hb
    rcases Nat.lt_or_ge b w.heap.size with h' | h'
    · exact h'
    · rw [Array.getElem?_eq_none h'] at h; cases h
  keep := by
    rintro w w' F ⟨rfl, i, s, h, h2⟩ hk
    exact ⟨rfl, i, s, (hk g (by simp)).trans h, h2⟩
section
variable {w0 w w' : World} {ps : List Asn} {i A A' g cl cc : Nat} {ca : Option Addr}
theorem Sp.cur (h : Sp w0 w ps) (hi : ps[i]? = some (CurA A g ca cl cc)) (hc : CodeOk w0 ca cl) (hs : cl ≤ 65536) :
    CurIs A g ca cl cc w ∧ ∀ w', CurIs A' g ca cl cc w' → Chg [g] w w' → Sp w0 w' (ps.set i (CurA A' g ca cl cc)) := by
  obtain ⟨F, ⟨rfl, hh⟩, hF, hall⟩ := h.upd hi
  have hg := hF g (by simp)
  refine ⟨⟨hh, hc.grow h.below, fun hp a ha => by have := hc.lt hp a ha; omega, hs⟩, fun w' h1 h2 => hall w' _ [g] h2 ⟨rfl, h1.ok⟩ fun b hb => .inl hb⟩
end

theorem u64_in (x : Int) : 0 ≤ IntKind.u64.wrap x ∧ IntKind.u64.wrap x < 18446744073709551616 := by
  have h : IntKind.u64.wrap x = x % 18446744073709551616 := by rfl
  rw [h]; omega
theorem and255 (y : Int) : 0 ≤ bits .and .u64 y 255 ∧ bits .and .u64 y 255 ≤ 255 := by
  have h : bits .and .u64 y 255 = IntKind.u64.wrap (((BitVec.ofInt 64 y &&& BitVec.ofInt 64 255).toNat : Nat) : Int) := rfl
  have h2 : (BitVec.ofInt 64 y &&& BitVec.ofInt 64 255).toNat ≤ 255 := by
    rw [BitVec.toNat_and]
    exact Nat.le_trans Nat.and_le_right (by decide)
  rw [h, IntKind.wrap_u64]
  omega
theorem and255w (y : Int) : 0 ≤ wrap64 (bits .and .u64 y 255) ∧ wrap64 (bits .and .u64 y 255) ≤ 255 := by
  have := and255 y
  unfold wrap64
  omega
theorem cur_step {A g cl cc i : Nat} {ca : Option Addr} {w : World} {s s' : Int} (hg : w.heap[g]? = some (.cells #[.slice ca cl cc, .int .i64 i, .int .u64 s] 74 (0, 0))) (hi : i ≤ A) (hs : 0 ≤ s' ∧ s' < 18446744073709551616)
    (hcode : CodeOk w ca cl) (hfar : 0 < cl → ∀ a, ca = some a → a.block ≠ g) (hsm : cl ≤ 65536) (n m : Nat) :
    CurIs (A + 1) g ca cl cc ((((w.drewN n).setCell ⟨g, 1, none⟩ (.int .i64 ((i : Int) + 1))).setCell ⟨g, 2, none⟩ (.int .u64 s')).drewN m) ∧ Chg [g] w ((((w.drewN n).setCell ⟨g, 1, none⟩ (.int .i64 ((i : Int) + 1))).setCell ⟨g, 2, none⟩ (.int .u64 s')).drewN m) := by
  have hother : ∀ k, k ≠ g → ((((w.drewN n).setCell ⟨g, 1, none⟩ (.int .i64 ((i : Int) + 1))).setCell ⟨g, 2, none⟩ (.int .u64 s')).drewN m).heap[k]? = w.heap[k]? := fun k hk => by
    show (((w.drewN n).setCell ⟨g, 1, none⟩ (.int .i64 ((i : Int) + 1))).setCell ⟨g, 2, none⟩ (.int .u64 s')).heap[k]? = _
    rw [Below.heap_setCell _ _ _ _ hk, Below.heap_setCell _ _ _ _ hk]
    rfl
  have hg' : (w.drewN n).heap[g]? = some (.cells #[.slice ca cl cc, .int .i64 i, .int .u64 s] 74 (0, 0)) := hg
  have hcodeN : CodeOk ((((w.drewN n).setCell ⟨g, 1, none⟩ (.int .i64 ((i : Int) + 1))).setCell ⟨g, 2, none⟩ (.int .u64 s')).drewN m) ca cl := by
    rcases Nat.eq_zero_or_pos cl with h0 | hp
    · rw [h0]; exact .zero _ _
    · exact hcode.keep fun a ha => hother _ (hfar hp a ha)
  refine ⟨⟨⟨i + 1, s', ?_, by omega, hs⟩, hcodeN, hfar, hsm⟩, ⟨rfl, rfl, rfl, by show _ ≤ (((w.drewN n).setCell _ _).setCell _ _).heap.size; simp [World.setCell], fun k _ hn => hother k (by simpa using hn)⟩⟩
  show (((w.drewN n).setCell ⟨g, 1, none⟩ (.int .i64 ((i : Int) + 1))).setCell ⟨g, 2, none⟩ (.int .u64 s')).heap[g]? = _
  simp [World.setCell, Array.getElem?_modify]
  exact ⟨_, hg', rfl⟩

set_option maxRecDepth 100000 in
set_option maxHeartbeats 2000000 in
theorem cur_next (A g : Nat) (ca : Option Addr) (cl cc : Nat) (w : World) (h : CurIs A g ca cl cc w) (hA : A ≤ 1000000000) :
    Calls Tryz.prog 165 #[.pointer (some ⟨g, 0, none⟩)] w (CurPost (IntIn 0 255) (A + 1) g ca cl cc w) := by
  obtain ⟨⟨i, s, hg, hiA, hs0, hs1⟩, hcode, hfar, hsm⟩ := h
  have S0 : Sp w w [] := Sp.start w
  have c0 : w.cell? ⟨g, 0, none⟩ = some (.slice ca cl cc) := by simp [World.cell?, hg]
  have c1 : w.cell? ⟨g, 1, none⟩ = some (.int .i64 i) := by simp [World.cell?, hg]
  have c2 : w.cell? ⟨g, 2, none⟩ = some (.int .u64 s) := by simp [World.cell?, hg]
  have f1 : w.frozen? ⟨g, 1, none⟩ = false := by simp [World.frozen?, hg]
  have f2 : w.frozen? ⟨g, 2, none⟩ = false := by simp [World.frozen?, hg]
  by_cases hlt : i < cl
  · obtain ⟨cb, off, x, rfl, hx, hx0, hx1⟩ := hcode i hlt
    have hne := hfar (by omega) _ rfl
    have hlt' : (i : Int) < (cl : Int) := by omega
    go_enter Tryz.func165, Tryz.ntmps165
    go_wp2_with fail
    go_quiet (fail)
    go_wp2_with fail
    go_quiet (fail)
    go_wp2_with fail
    go_quiet (fail)
    go_wp2_with fail
    go_ret
    obtain ⟨h1, h2⟩ := cur_step hg hiA (u64_in _) hcode hfar hsm _ _
    exact ⟨_, ⟨x, hx0, hx1, rfl⟩, rfl, h1, h2⟩
  · have hge : ¬ (i : Int) < (cl : Int) := by omega
    go_enter Tryz.func165, Tryz.ntmps165
    go_wp2_with fail
    go_quiet (fail)
    go_wp2_with fail
    go_quiet (fail)
    go_wp2_with fail
    go_ret
    obtain ⟨h1, h2⟩ := cur_step hg hiA (u64_in _) hcode hfar hsm _ _
    exact ⟨_, ⟨_, (and255w _).1, (and255w _).2, rfl⟩, rfl, h1, h2⟩

theorem Chg.cell {F : List Nat} {w w' : World} {b o : Nat} {v : Value} (h : Chg F w w') (hc : w.cell? ⟨b, o, none⟩ = some v) (hb : b ∉ F) : w'.cell? ⟨b, o, none⟩ = some v :=
  (World.cell?_of_block (a := ⟨b, o, none⟩) (h.block b (World.block_lt_of_cell? _ _ hc) hb)).trans hc

set_option maxHeartbeats 2000000 in
theorem cur_pick (n : Int) (A g : Nat) (ca : Option Addr) (cl cc : Nat) (w : World) (h : CurIs A g ca cl cc w) (hA : A ≤ 100000000) (hn : n ≤ 1000000000) :
    Calls Tryz.prog 124 #[.pointer (some ⟨g, 0, none⟩), .int .i64 n] w (CurPost (IntIn 0 (if n ≤ 1 then 0 else n - 1)) (A + 2) g ca cl cc w) := by
  by_cases h1 : n ≤ 1
  · rw [if_pos h1]
    go_enter Tryz.func124, Tryz.ntmps124
    go_wp2_with fail
    go_ret
    exact ⟨_, ⟨0, by omega, by omega, rfl⟩, rfl, h.mono (by omega), Chg.refl _ _⟩
  rw [if_neg h1]
  have hn1 : 1 < n := by omega
  have hn0 : 0 < n := by omega
  by_cases h2 : 200 < n
  · go_enter Tryz.func124, Tryz.ntmps124
    go_wp2_with fail
    refine (cur_next A g ca cl cc w h (by omega)).mono ?_
    rintro e w1 ⟨_, ⟨x, hx0, hx1, rfl⟩, rfl, hi1, hc1⟩
    go_wp2_with fail
    refine (cur_next (A + 1) g ca cl cc w1 hi1 (by omega)).mono ?_
    rintro e w2 ⟨_, ⟨y, hy0, hy1, rfl⟩, rfl, hi2, hc2⟩
    have hxy : 0 ≤ x * 256 + y := by omega
    have hm := Int.emod_nonneg (x * 256 + y) (by omega : n ≠ 0)
    have hm2 := Int.emod_lt_of_pos (x * 256 + y) hn0
    have hc := hc1.trans hc2
    replace hm := Lib.hid hm
    replace hm2 := Lib.hid hm2
    go_wp2_with fail
    go_ret
    exact ⟨_, ⟨_, hm.out, by have := hm2.out; omega, rfl⟩, rfl, hi2, hc⟩
  · go_enter Tryz.func124, Tryz.ntmps124
    go_wp2_with fail
    refine (cur_next A g ca cl cc w h (by omega)).mono ?_
    rintro e w1 ⟨_, ⟨x, hx0, hx1, rfl⟩, rfl, hi1, hc1⟩
    have hm := Int.emod_nonneg x (by omega : n ≠ 0)
    have hm2 := Int.emod_lt_of_pos x hn0
    replace hm := Lib.hid hm
    replace hm2 := Lib.hid hm2
    go_wp2_with fail
    go_ret
    exact ⟨_, ⟨_, hm.out, by have := hm2.out; omega, rfl⟩, rfl, hi1.mono (by omega), hc1⟩
theorem cur_pick_at {lo hi : Int} {n : Int} {A g : Nat} {ca : Option Addr} {cl cc : Nat} {w : World} (h : CurIs A g ca cl cc w) (hA : A ≤ 100000000) (hn : n ≤ 1000000000) (h1 : lo ≤ 0) (h2 : 0 ≤ hi) (h3 : n - 1 ≤ hi) :
    Calls Tryz.prog 124 #[.pointer (some ⟨g, 0, none⟩), .int .i64 n] w (CurPost (IntIn lo hi) (A + 2) g ca cl cc w) :=
  (cur_pick n A g ca cl cc w h hA hn).mono fun e w' ⟨v, ⟨x, hx0, hx1, hx⟩, r⟩ => ⟨v, ⟨x, by omega, by split at hx1 <;> omega, hx⟩, r⟩

/-- Some bool. -/
def IsBool (v : Value) : Prop := ∃ q : Bool, v = .bool q
theorem cur_one (n : Int) (A g : Nat) (ca : Option Addr) (cl cc : Nat) (w : World) (h : CurIs A g ca cl cc w) (hA : A ≤ 100000000) (hn : n ≤ 1000000000) :
    Calls Tryz.prog 94 #[.pointer (some ⟨g, 0, none⟩), .int .i64 n] w (CurPost IsBool (A + 2) g ca cl cc w) := by
  go_enter Tryz.func94, Tryz.ntmps94
  go_wp2_with fail
  refine (cur_pick n A g ca cl cc w h hA hn).mono ?_
  rintro e w1 ⟨_, ⟨x, _, _, rfl⟩, rfl, hi1, hc1⟩
  go_wp2_with fail
  go_ret
  exact ⟨_, ⟨_, rfl⟩, rfl, hi1, hc1⟩

/-- A string of which R holds. -/
def StrR (R : ByteArray → Prop) (v : Value) : Prop := ∃ s, R s ∧ v = .string s
/-- A list of strings of which R holds. -/
def StrsR (R : ByteArray → Prop) (w : World) (b off m : Nat) : Prop := ∀ j, j < m → ∃ s, R s ∧ w.cell? ⟨b, off + j, none⟩ = some (.string s)

set_option maxHeartbeats 2000000 in
theorem cur_of (R : ByteArray → Prop) (b off m c : Nat) (A g : Nat) (ca : Option Addr) (cl cc : Nat) (w : World) (h : CurIs A g ca cl cc w) (hA : A ≤ 100000000) (hm0 : 0 < m) (hm : m ≤ 1000000) (hs : StrsR R w b off m) (hb : b ≠ g) :
    Calls Tryz.prog 126 #[.pointer (some ⟨g, 0, none⟩), .slice (some ⟨b, off, none⟩) m c] w (CurPost (StrR R) (A + 2) g ca cl cc w) := by
  go_enter Tryz.func126, Tryz.ntmps126
  go_wp2_with fail
  refine (cur_pick_at (lo := 0) (hi := (m : Int) - 1) h hA (by omega) (by omega) (by omega) (by omega)).mono ?_
  rintro e w1 ⟨_, ⟨x, hx0, hx1, rfl⟩, rfl, hi1, hc1⟩
  obtain ⟨k, rfl⟩ := Int.eq_ofNat_of_zero_le hx0
  have hk : k < m := by omega
  have hk' : (k : Int) < (m : Int) := by omega
  obtain ⟨s, hR, hcell⟩ := hs k hk
  have k0 := hc1.cell hcell (by simpa using hb)
  clear hx1
  go_wp2_with fail
  go_ret
  exact ⟨_, ⟨s, hR, rfl⟩, rfl, hi1, hc1⟩

set_option maxHeartbeats 2000000 in
theorem cur_among (lo hi : Int) (b off m c : Nat) (A g : Nat) (ca : Option Addr) (cl cc : Nat) (w : World) (h : CurIs A g ca cl cc w) (hA : A ≤ 100000000) (hm0 : 0 < m) (hm : m ≤ 1000000) (hs : ∀ j, j < m → ∃ x, lo ≤ x ∧ x ≤ hi ∧ w.cell? ⟨b, off + j, none⟩ = some (.int .i64 x)) (hb : b ≠ g) :
    Calls Tryz.prog 87 #[.pointer (some ⟨g, 0, none⟩), .slice (some ⟨b, off, none⟩) m c] w (CurPost (IntIn lo hi) (A + 2) g ca cl cc w) := by
  go_enter Tryz.func87, Tryz.ntmps87
  go_wp2_with fail
  refine (cur_pick_at (lo := 0) (hi := (m : Int) - 1) h hA (by omega) (by omega) (by omega) (by omega)).mono ?_
  rintro e w1 ⟨_, ⟨x, hx0, hx1, rfl⟩, rfl, hi1, hc1⟩
  obtain ⟨k, rfl⟩ := Int.eq_ofNat_of_zero_le hx0
  have hk : k < m := by omega
  have hk' : (k : Int) < (m : Int) := by omega
  obtain ⟨y, hy0, hy1, hcell⟩ := hs k hk
  have k0 := hc1.cell hcell (by simpa using hb)
  clear hx1
  go_wp2_with fail
  go_ret
  exact ⟨_, ⟨y, hy0, hy1, rfl⟩, rfl, hi1, hc1⟩
end Go.Proofs.YtahbepajeplcmaaGreatDoor
