/- Lemmas and contracts for a law, put together out of several texts: PlA BookA BookB BmA RcA RepA MemA OpenA MemF FlatC MemB StrA. -/
import Derived.WalkKit
import Derived.Lib.ItoaNum
import Derived.Below
import Derived.Lib.QuietBelow
import Derived.BigQuiet
import Derived.ProofKit
import Derived.OpenShut
import Derived.Deep.Slices
import Derived.OwnWalk
import Derived.Laws.OwnMore
import Derived.Test.YtpiimlmfcdjbbaaGreatDoorProg
import Derived.WalkLawsBesides
import Derived.WalkSpells
/- Plain facts on byte strings: no program in sight. -/
namespace Go.Proofs.YtpiimlmfcdjbbaaGreatDoor

/-- The bytes of a string. -/
def bl (s : ByteArray) : List UInt8 := s.data.toList
/-- The string of some bytes. -/
def ms (l : List UInt8) : ByteArray := ⟨l.toArray⟩

@[go_sem] theorem bl_ms (l : List UInt8) : bl (ms l) = l := rfl
theorem ms_bl (s : ByteArray) : ms (bl s) = s := rfl
theorem bl_length (s : ByteArray) : (bl s).length = s.size := rfl
theorem bl_lit (a : Array UInt8) : bl ⟨a⟩ = a.toList := rfl
theorem bl_inj {s t : ByteArray} (h : bl s = bl t) : s = t := by
  have := congrArg ms h
  simpa [ms_bl] using this
theorem bl_append (s t : ByteArray) : bl (s ++ t) = bl s ++ bl t := by simp [bl]
theorem bl_mk (l : List UInt8) : bl ⟨l.toArray⟩ = l := rfl
theorem bl_extract (s : ByteArray) (a b : Nat) : bl (s.extract a b) = ((bl s).drop a).take (b - a) := by
  simp [bl, ByteArray.data_extract, List.extract_eq_take_drop]
@[go_sem] theorem bl_toList (s : ByteArray) : s.toList = bl s := ByteArray.toList_eq s
@[go_sem] theorem ms_size (l : List UInt8) : (ms l).size = l.length := rfl
theorem bl_get (s : ByteArray) (k : Nat) (h : k < s.size) : (bl s)[k]'(by rw [bl_length]; exact h) = s[k] := rfl
theorem bl_take_succ (s : ByteArray) (k : Nat) (h : k < s.size) : (bl s).take (k + 1) = (bl s).take k ++ [s[k]] := by
  rw [List.take_succ_eq_append_getElem (by rw [bl_length]; exact h), bl_get s k h]
theorem bl_take_all (s : ByteArray) (k : Nat) (h : s.size ≤ k) : (bl s).take k = bl s := List.take_of_length_le (by rw [bl_length]; exact h)

theorem run_add {P : Program} (w : World) (s t : ByteArray) (h : s.size + t.size ≤ 9223372036854775807) : (Op.stringOp .add s t).run P w = .ok (.string (ms (bl s ++ bl t))) w := by
  rw [run_string_add_sum _ _ _ h]
  congr 2

/-- a ≤ x ≤ b. -/
def inB (x a b : Int) : Bool := decide (a ≤ x) && decide (x ≤ b)
theorem inB_true {x a b : Int} : inB x a b = true ↔ a ≤ x ∧ x ≤ b := by simp [inB]
theorem inB_false {x a b : Int} : inB x a b = false ↔ ¬ (a ≤ x ∧ x ≤ b) := by rw [← inB_true]; simp

/-- A byte is among the bytes. -/
def hasB (l : List UInt8) (b : Int) : Bool := l.any fun c => (c.toNat : Int) == b
theorem hasB_snoc (l : List UInt8) (c : UInt8) (b : Int) : hasB (l ++ [c]) b = (hasB l b || ((c.toNat : Int) == b)) := by simp [hasB]
theorem hasB_true_of_take {l : List UInt8} {k : Nat} {b : Int} (h : hasB (l.take k) b = true) : hasB l b = true := by
  simp only [hasB, List.any_eq_true] at *
  obtain ⟨x, hx, e⟩ := h
  exact ⟨x, List.mem_of_mem_take hx, e⟩

/-- Bytes that may stand in a record: 32..126, no '#'. -/
def okB (c : UInt8) : Bool := inB c.toNat 32 126 && !((c.toNat : Int) == 35)
def allB (l : List UInt8) : Bool := l.all okB
theorem allB_snoc (l : List UInt8) (c : UInt8) : allB (l ++ [c]) = (allB l && okB c) := by simp [allB]
theorem allB_false_of_take {l : List UInt8} {k : Nat} (h : allB (l.take k) = false) : allB l = false := by
  rw [← List.take_append_drop k l]
  simp only [allB, List.all_append] at *
  rw [h]; rfl
def plainB (l : List UInt8) (most : Int) : Bool := allB l && decide ((l.length : Int) ≤ most)
/-- Bytes in 32..126. -/
def seenB (l : List UInt8) : Bool := l.all fun c => inB c.toNat 32 126
theorem seenB_snoc (l : List UInt8) (c : UInt8) : seenB (l ++ [c]) = (seenB l && inB c.toNat 32 126) := by simp [seenB]
theorem seenB_false_of_take {l : List UInt8} {k : Nat} (h : seenB (l.take k) = false) : seenB l = false := by
  rw [← List.take_append_drop k l]
  simp only [seenB, List.all_append] at *
  rw [h]; rfl

theorem ret_int {k : IntKind} {a b : Int} (h : a = b) : Ending.returned (.int k a) = .returned (.int k b) := by rw [h]
theorem ret_bool {a b : Bool} (h : a = b) : Ending.returned (.bool a) = .returned (.bool b) := by rw [h]

theorem bcell {W w1 : World} (hb : RowKit.Below W.heap.size W w1) : (∀ b o, b < W.heap.size → w1.cell? ⟨b, o, none⟩ = W.cell? ⟨b, o, none⟩) ∧ (∀ b o, b < W.heap.size → w1.frozen? ⟨b, o, none⟩ = W.frozen? ⟨b, o, none⟩) :=
  ⟨fun b o h => hb.cell (p := ⟨b, o, none⟩) h, fun b o h => hb.frozen (p := ⟨b, o, none⟩) h⟩
theorem bb (W : World) : RowKit.Below W.heap.size W W := RowKit.Below.refl _ _
theorem bal {W w : World} (h : RowKit.Below W.heap.size W w) (o : Obj) : RowKit.Below W.heap.size W (w.alloc o) := h.alloc h.size o
theorem bst {W w : World} (h : RowKit.Below W.heap.size W w) {p : Addr} (hp : W.heap.size ≤ p.block) (u : Value) : RowKit.Below W.heap.size W (w.setCell p u) := h.setCell hp u
theorem btr {W w w' : World} (h : RowKit.Below W.heap.size W w) (h' : RowKit.Below w.heap.size w w') : RowKit.Below W.heap.size W w' := h.trans (h'.mono h.size)
theorem bdr {W w : World} (h : RowKit.Below W.heap.size W w) : RowKit.Below W.heap.size W w.drew := h.drew
/-- What a step of a region does to the lists that it carries: one name for all the rules. -/
theorem put_rules : (∀ (l : List Oper) (i : Nat) (h : i < l.toArray.size), l.toArray[i]'h = l[i]'(by simpa using h)) ∧ (∀ (o : Oper) (l : List Oper) (h : 0 < (o :: l).length), (o :: l)[0]'h = o) ∧ (∀ (o : Oper) (l : List Oper) (n : Nat) (h : n + 1 < (o :: l).length), (o :: l)[n + 1]'h = l[n]'(Nat.lt_of_succ_lt_succ h)) ∧ (∀ (a : Act) (d : Tmp) (v : Value), a.put (some d) v = { a with tmps := a.tmps.setIfInBounds d v }) ∧ (∀ (a : Act) (v : Value), a.put none v = a) ∧ (∀ (l : List Bool) (i : Nat) (b : Bool), l.toArray.setIfInBounds i b = (l.set i b).toArray) ∧ (∀ (l : List Value) (i : Nat) (b : Value), l.toArray.setIfInBounds i b = (l.set i b).toArray) ∧
    (∀ (a b : Bool) (l : List Bool), (a :: l).set 0 b = b :: l) ∧ (∀ (a b : Value) (l : List Value), (a :: l).set 0 b = b :: l) ∧
    (∀ (a b : Bool) (l : List Bool) (n : Nat), (a :: l).set (n + 1) b = a :: l.set n b) ∧ (∀ (a b : Value) (l : List Value) (n : Nat), (a :: l).set (n + 1) b = a :: l.set n b) :=
  ⟨fun _ _ _ => rfl, fun _ _ _ => rfl, fun _ _ _ _ => rfl, fun _ _ _ => rfl, fun _ _ => rfl, fun _ _ _ => List.setIfInBounds_toArray .., fun _ _ _ => List.setIfInBounds_toArray .., fun _ _ _ => rfl, fun _ _ _ => rfl, fun _ _ _ _ => rfl, fun _ _ _ _ => rfl⟩
end Go.Proofs.YtpiimlmfcdjbbaaGreatDoor

/- Plain facts: books of records. No program in sight. -/
namespace Go.Proofs.YtpiimlmfcdjbbaaGreatDoor

/-- A record: name, system, size, extra. -/
structure Rec where
  name : List UInt8
  sys : Int
  size : Int
  extra : Int
  deriving DecidableEq

def nameC (c : UInt8) : Bool := inB c.toNat 97 122 || inB c.toNat 48 57
def nameB (l : List UInt8) : Bool := inB l.length 1 12 && l.all nameC
/-- A valid record. -/
def recB (r : Rec) : Bool := nameB r.name && inB r.sys 1 4 && inB r.size 1 9999 && inB r.extra 0 9999

theorem less_irrefl : ∀ a : List UInt8, Op.bytesLess a a = false
  | [] => rfl
  | c :: a => by
    simp only [Op.bytesLess, beq_self_eq_true, Bool.true_and, less_irrefl a, Bool.or_false, decide_eq_false_iff_not]
    rw [UInt8.lt_iff_toNat_lt]; omega
theorem less_trans : ∀ {a b c : List UInt8}, Op.bytesLess a b = true → Op.bytesLess b c = true → Op.bytesLess a c = true
  | _, [], _, h, _ => by cases ‹List UInt8› <;> simp [Op.bytesLess] at h
  | _, _ :: _, [], _, h => by simp [Op.bytesLess] at h
  | [], _ :: _, _ :: _, _, _ => rfl
  | x :: a, y :: b, z :: c, h, k => by
    simp only [Op.bytesLess, Bool.or_eq_true, decide_eq_true_eq, Bool.and_eq_true, beq_iff_eq, UInt8.lt_iff_toNat_lt] at h k ⊢
    rcases h with h | ⟨rfl, h⟩
    · rcases k with k | ⟨rfl, k⟩
      · left; omega
      · left; exact h
    · rcases k with k | ⟨rfl, k⟩
      · left; exact k
      · right; exact ⟨rfl, less_trans h k⟩
theorem less_total : ∀ {a b : List UInt8}, Op.bytesLess a b = false → a ≠ b → Op.bytesLess b a = true
  | [], [], _, h => absurd rfl h
  | [], _ :: _, h, _ => by simp [Op.bytesLess] at h
  | _ :: _, [], _, _ => rfl
  | x :: a, y :: b, h, hne => by
    simp only [Op.bytesLess, Bool.or_eq_false_iff, decide_eq_false_iff_not, Bool.and_eq_false_iff, beq_eq_false_iff_ne, UInt8.lt_iff_toNat_lt] at h
    simp only [Op.bytesLess, Bool.or_eq_true, decide_eq_true_eq, Bool.and_eq_true, beq_iff_eq, UInt8.lt_iff_toNat_lt]
    by_cases e : x = y
    · subst e
      right
      rcases h.2 with h2 | h2
      · exact absurd rfl h2
      · exact ⟨rfl, less_total h2 (fun e => hne (by rw [e]))⟩
    · left
      have : x.toNat ≠ y.toNat := fun h => e (UInt8.toNat_inj.1 h)
      omega
theorem less_asym {a b : List UInt8} (h : Op.bytesLess a b = true) : Op.bytesLess b a = false := by
  cases e : Op.bytesLess b a with
  | false => rfl
  | true => have := less_trans h e; rw [less_irrefl] at this; cases this

/-- A record is before another one. -/
def beforeB (a b : Rec) : Bool := Op.bytesLess a.name b.name || (a.name == b.name && decide (a.sys < b.sys))
theorem before_trans {a b c : Rec} (h : beforeB a b = true) (k : beforeB b c = true) : beforeB a c = true := by
  simp only [beforeB, Bool.or_eq_true, Bool.and_eq_true, beq_iff_eq, decide_eq_true_eq] at *
  rcases h with h | ⟨h1, h2⟩
  · rcases k with k | ⟨k1, k2⟩
    · exact .inl (less_trans h k)
    · left; rw [← k1]; exact h
  · rcases k with k | ⟨k1, k2⟩
    · left; rw [h1]; exact k
    · right; exact ⟨h1.trans k1, by omega⟩
/-- Place i of a book is as it must be. -/
def bkOk (xs : List Rec) (i : Nat) : Bool :=
  match xs[i]?, (if i = 0 then none else xs[i - 1]?) with
  | some r, none => recB r
  | some r, some q => recB r && beforeB q r
  | none, _ => false
def bkOkTo (xs : List Rec) (k : Nat) : Bool := (List.range k).all (bkOk xs)
theorem bkOkTo_succ (xs : List Rec) (k : Nat) : bkOkTo xs (k + 1) = (bkOkTo xs k && bkOk xs k) := by simp [bkOkTo, List.range_succ]
/-- A book. -/
def bookB (xs : List Rec) : Bool := bkOkTo xs xs.length && decide (xs.length ≤ 24)
theorem bkOkTo_le {xs : List Rec} {k : Nat} (hk : k ≤ xs.length) (h : bkOkTo xs k = false) : bkOkTo xs xs.length = false := by
  obtain ⟨d, hd⟩ : ∃ d, xs.length = k + d := ⟨xs.length - k, by omega⟩
  rw [hd]
  clear hd hk
  induction d with
  | zero => exact h
  | succ d ih => rw [← Nat.add_assoc, bkOkTo_succ, ih]; rfl
theorem bkOk_zero (xs : List Rec) (h : 0 < xs.length) : bkOk xs 0 = recB xs[0] := by
  unfold bkOk
  rw [List.getElem?_eq_getElem h, if_pos rfl]
theorem bkOk_succ (xs : List Rec) (k : Nat) (h : k + 1 < xs.length) : bkOk xs (k + 1) = (recB xs[k + 1] && beforeB (xs[k]'(by omega)) xs[k + 1]) := by
  unfold bkOk
  rw [List.getElem?_eq_getElem h, if_neg (by omega), Nat.add_sub_cancel, List.getElem?_eq_getElem (show k < xs.length by omega)]
theorem book_at {xs : List Rec} (h : bookB xs = true) (k : Nat) (hk : k < xs.length) : bkOk xs k = true := by
  unfold bookB bkOkTo at h
  rw [Bool.and_eq_true, List.all_eq_true] at h
  exact h.1 k (List.mem_range.2 hk)
theorem book_rec {xs : List Rec} (h : bookB xs = true) (k : Nat) (hk : k < xs.length) : recB xs[k] = true := by
  have := book_at h k hk
  cases k with
  | zero => rwa [bkOk_zero xs hk] at this
  | succ k => rw [bkOk_succ xs k hk, Bool.and_eq_true] at this; exact this.1
theorem book_rising {xs : List Rec} (h : bookB xs = true) : ∀ (i j : Nat) (hj : j < xs.length) (hij : i < j), beforeB (xs[i]'(by omega)) xs[j] = true
  | i, j + 1, hj, hij => by
    have h1 := book_at h (j + 1) hj
    rw [bkOk_succ xs j hj, Bool.and_eq_true] at h1
    rcases Nat.lt_or_ge i j with h2 | h2
    · exact before_trans (book_rising h i j (by omega) h2) h1.2
    · obtain rfl : i = j := by omega
      exact h1.2
end Go.Proofs.YtpiimlmfcdjbbaaGreatDoor

/- Plain facts: names with a smaller proof in one system than in another. No program in sight. -/
namespace Go.Proofs.YtpiimlmfcdjbbaaGreatDoor

theorem book_pair {xs : List Rec} (h : bookB xs = true) : xs.Pairwise (fun a b => beforeB a b = true) :=
  List.pairwise_iff_getElem.2 fun i j _ hj hij => book_rising h i j hj hij
abbrev LessN (a b : List UInt8) : Prop := Op.bytesLess a b = true
theorem lessN_asym (a b : List UInt8) (h : LessN a b) : ¬ LessN b a := fun k => by
  have := less_asym h
  rw [k] at this; cases this
theorem ascN_ext {α : Type} {R : α → α → Prop} (hR : ∀ x y, R x y → ¬ R y x) : ∀ {a b : List α}, a.Pairwise R → b.Pairwise R → (∀ x, x ∈ a ↔ x ∈ b) → a = b
  | [], [], _, _, _ => rfl
  | [], y :: b, _, _, h => by have := (h y).2 (by simp); simp at this
  | x :: a, [], _, _, h => by have := (h x).1 (by simp); simp at this
  | x :: a, y :: b, ha, hb, h => by
    rw [List.pairwise_cons] at ha hb
    have e : x = y := by
      rcases List.mem_cons.1 ((h x).1 (by simp)) with e | hx
      · exact e
      · rcases List.mem_cons.1 ((h y).2 (by simp)) with e | hy
        · exact e.symm
        · exact absurd (ha.1 y hy) (hR _ _ (hb.1 x hx))
    subst e
    have hx1 : x ∉ a := fun hx => hR _ _ (ha.1 x hx) (ha.1 x hx)
    have hx2 : x ∉ b := fun hx => hR _ _ (hb.1 x hx) (hb.1 x hx)
    rw [ascN_ext hR ha.2 hb.2 fun z => ?_]
    have := h z
    simp only [List.mem_cons] at this
    constructor
    · intro hz
      rcases this.1 (.inr hz) with e | hz2
      · exact absurd (e ▸ hz) hx1
      · exact hz2
    · intro hz
      rcases this.2 (.inr hz) with e | hz2
      · exact absurd (e ▸ hz) hx2
      · exact hz2

/-- Whether a record in one system is smaller than one of the same name in another. -/
def underB (one two : Int) (r q : Rec) : Bool := decide (r.sys = one) && decide (q.sys = two) && (r.name == q.name) && decide (r.size < q.size)
/-- The reference's list. -/
def smallS (xs : List Rec) (one two : Int) : List (List UInt8) := xs.flatMap fun r => xs.flatMap fun q => if underB one two r q then [r.name] else []
theorem mem_smallS {xs : List Rec} {one two : Int} {n : List UInt8} : n ∈ smallS xs one two ↔ ∃ r ∈ xs, ∃ q ∈ xs, underB one two r q = true ∧ r.name = n := by
  simp only [smallS, List.mem_flatMap]
  constructor
  · rintro ⟨r, hr, q, hq, h⟩
    by_cases hu : underB one two r q = true
    · rw [if_pos hu, List.mem_singleton] at h
      exact ⟨r, hr, q, hq, hu, h.symm⟩
    · rw [if_neg hu] at h; simp at h
  · rintro ⟨r, hr, q, hq, hu, rfl⟩
    exact ⟨r, hr, q, hq, by rw [if_pos hu]; simp⟩
theorem under_spec {one two : Int} {r q : Rec} : underB one two r q = true ↔ r.sys = one ∧ q.sys = two ∧ r.name = q.name ∧ r.size < q.size := by
  simp only [underB, Bool.and_eq_true, decide_eq_true_eq, beq_iff_eq, and_assoc]
theorem before_less {a b : Rec} (h : beforeB a b = true) (hs : a.sys = b.sys) : LessN a.name b.name := by
  simp only [beforeB, Bool.or_eq_true, Bool.and_eq_true, beq_iff_eq, decide_eq_true_eq] at h
  rcases h with h | ⟨_, h⟩
  · exact h
  · omega
theorem before_no {a b : Rec} (h : beforeB a b = true) (hs : a.sys = b.sys) (hn : a.name = b.name) : False := by
  have := before_less h hs
  unfold LessN at this
  rw [hn, less_irrefl] at this
  cases this
theorem smallS_asc {xs : List Rec} {one two : Int} (h : bookB xs = true) : (smallS xs one two).Pairwise LessN := by
  have hp := book_pair h
  unfold smallS
  rw [List.pairwise_flatMap]
  refine ⟨fun r _ => ?_, ?_⟩
  · rw [List.pairwise_flatMap]
    refine ⟨fun q _ => by split <;> simp, hp.imp fun {a b} hab x hx y hy => ?_⟩
    by_cases ha : underB one two r a = true
    · by_cases hb : underB one two r b = true
      · obtain ⟨_, a2, a3, _⟩ := under_spec.1 ha
        obtain ⟨_, b2, b3, _⟩ := under_spec.1 hb
        exact (before_no hab (a2.trans b2.symm) (a3.symm.trans b3)).elim
      · rw [if_neg hb] at hy; simp at hy
    · rw [if_neg ha] at hx; simp at hx
  · refine hp.imp fun {a b} hab x hx y hy => ?_
    obtain ⟨q, _, hq⟩ := List.mem_flatMap.1 hx
    obtain ⟨s, _, hs⟩ := List.mem_flatMap.1 hy
    by_cases ha : underB one two a q = true
    · by_cases hb : underB one two b s = true
      · rw [if_pos ha, List.mem_singleton] at hq
        rw [if_pos hb, List.mem_singleton] at hs
        subst hq; subst hs
        exact before_less hab ((under_spec.1 ha).1.trans (under_spec.1 hb).1.symm)
      · rw [if_neg hb] at hs; simp at hs
    · rw [if_neg ha] at hq; simp at hq

/-- The record of a name in a system. -/
def isRec (n : List UInt8) (s : Int) (r : Rec) : Bool := (r.name == n) && decide (r.sys = s)
def recOf (xs : List Rec) (n : List UInt8) (s : Int) : Option Rec := xs.find? (isRec n s)
def goesB (xs : List Rec) (one two : Int) (n : List UInt8) : Bool :=
  match recOf xs n one, recOf xs n two with
  | some a, some b => decide (b.size ≤ a.size)
  | _, _ => true
theorem recOf_iff {xs : List Rec} (h : bookB xs = true) {n : List UInt8} {s : Int} {r : Rec} : recOf xs n s = some r ↔ r ∈ xs ∧ r.name = n ∧ r.sys = s := by
  unfold recOf
  constructor
  · intro hf
    have h1 := List.find?_some hf
    simp only [isRec, Bool.and_eq_true, beq_iff_eq, decide_eq_true_eq] at h1
    exact ⟨List.mem_of_find?_eq_some hf, h1⟩
  · rintro ⟨hr, rfl, rfl⟩
    cases hf : xs.find? (isRec r.name r.sys) with
    | none =>
      have := List.find?_eq_none.1 hf r hr
      simp [isRec] at this
    | some q =>
      have h1 := List.find?_some hf
      simp only [isRec, Bool.and_eq_true, beq_iff_eq, decide_eq_true_eq] at h1
      have hq := List.mem_of_find?_eq_some hf
      obtain ⟨i, hi, rfl⟩ := List.getElem_of_mem hr
      obtain ⟨j, hj, rfl⟩ := List.getElem_of_mem hq
      rcases Nat.lt_trichotomy i j with hlt | rfl | hlt
      · exact (before_no (book_rising h i j hj hlt) h1.2.symm h1.1.symm).elim
      · rfl
      · exact (before_no (book_rising h j i hi hlt) h1.2 h1.1).elim
theorem goes_iff {xs : List Rec} (h : bookB xs = true) {one two : Int} {n : List UInt8} : goesB xs one two n = false ↔ n ∈ smallS xs one two := by
  rw [mem_smallS]
  unfold goesB
  constructor
  · intro hg
    cases h1 : recOf xs n one with
    | none => rw [h1] at hg; cases hg
    | some a =>
      cases h2 : recOf xs n two with
      | none => rw [h1, h2] at hg; cases hg
      | some b =>
        rw [h1, h2] at hg
        simp only [decide_eq_false_iff_not] at hg
        obtain ⟨a1, a2, a3⟩ := (recOf_iff h).1 h1
        obtain ⟨b1, b2, b3⟩ := (recOf_iff h).1 h2
        exact ⟨a, a1, b, b1, under_spec.2 ⟨a3, b3, a2.trans b2.symm, by omega⟩, a2⟩
  · rintro ⟨r, hr, q, hq, hu, rfl⟩
    obtain ⟨u1, u2, u3, u4⟩ := under_spec.1 hu
    rw [(recOf_iff h).2 ⟨hr, rfl, u1⟩, (recOf_iff h).2 ⟨hq, u3.symm, u2⟩]
    simp only [decide_eq_false_iff_not]
    omega
/-- Whatever rising list of the names the program leaves names out of, the same ones stay. -/
theorem small_same {xs : List Rec} (h : bookB xs = true) {one two : Int} {ns : List (List UInt8)} (h1 : ns.Pairwise LessN) (h2 : ∀ n, n ∈ ns ↔ n ∈ xs.map Rec.name) : ns.filter (fun n => !goesB xs one two n) = smallS xs one two := by
  refine ascN_ext lessN_asym (h1.filter _) (smallS_asc h) fun n => ?_
  rw [List.mem_filter, h2, Bool.not_eq_true', goes_iff h]
  constructor
  · exact fun h => h.2
  · intro hn
    refine ⟨?_, hn⟩
    obtain ⟨r, hr, q, hq, _, rfl⟩ := mem_smallS.1 hn
    exact List.mem_map.2 ⟨r, hr, rfl⟩
end Go.Proofs.YtpiimlmfcdjbbaaGreatDoor

/- Plain facts: a record is entered in a book, and books are merged. No program in sight. -/
namespace Go.Proofs.YtpiimlmfcdjbbaaGreatDoor

/-- Where a record goes: behind all that are before it. -/
def posR (xs : List Rec) (r : Rec) : Nat := (xs.takeWhile fun q => beforeB q r).length
theorem posR_le (xs : List Rec) (r : Rec) : posR xs r ≤ xs.length := (List.takeWhile_prefix _).length_le
theorem posR_lt {r : Rec} : ∀ {xs : List Rec} {j : Nat} (h : j < xs.length), j < posR xs r → beforeB xs[j] r = true
  | [], _, h, _ => absurd h (by simp)
  | x :: xs, j, h, hj => by
    unfold posR at hj
    rw [List.takeWhile_cons] at hj
    cases hx : beforeB x r
    · rw [hx] at hj; simp at hj
    · rw [hx] at hj
      cases j with
      | zero => simpa using hx
      | succ j =>
        simp only [if_true, List.length_cons] at hj
        have := posR_lt (r := r) (xs := xs) (j := j) (by simpa using h) (by unfold posR; omega)
        simpa using this
theorem posR_at {r : Rec} : ∀ {xs : List Rec} (h : posR xs r < xs.length), beforeB xs[posR xs r] r = false
  | [], h => absurd h (by simp)
  | x :: xs, h => by
    cases hx : beforeB x r
    · have e : posR (x :: xs) r = 0 := by unfold posR; rw [List.takeWhile_cons, hx]; rfl
      simp only [e, List.getElem_cons_zero]; exact hx
    · have e : posR (x :: xs) r = posR xs r + 1 := by unfold posR; rw [List.takeWhile_cons, hx]; rfl
      simp only [e, List.getElem_cons_succ]
      exact posR_at (by rw [e] at h; simpa using h)
theorem posR_eq {xs : List Rec} {r : Rec} {k : Nat} (hk : k ≤ xs.length) (h1 : ∀ j (hj : j < xs.length), j < k → beforeB xs[j] r = true) (h2 : ∀ (h : k < xs.length), beforeB xs[k] r = false) : posR xs r = k := by
  have hle := posR_le xs r
  rcases Nat.lt_trichotomy (posR xs r) k with h | h | h
  · have := h1 (posR xs r) (by omega) h
    rw [posR_at (by omega)] at this
    cases this
  · exact h
  · have hkl : k < xs.length := by omega
    have := posR_lt hkl h
    rw [h2 hkl] at this
    cases this

/-- Whether the record's place is taken by one of the same name and system. -/
def sameR (q r : Rec) : Bool := (q.name == r.name) && decide (q.sys = r.sys)
def overR (q r : Rec) : Bool := decide (r.size < q.size) || (decide (q.size = r.size) && decide (r.extra < q.extra))
def betterR (q r : Rec) : Rec := if overR q r then r else q
/-- A record is entered. -/
def entR (xs : List Rec) (r : Rec) : List Rec :=
  match xs[posR xs r]? with
  | some q => if sameR q r then xs.set (posR xs r) (betterR q r) else xs.take (posR xs r) ++ r :: xs.drop (posR xs r)
  | none => xs.take (posR xs r) ++ r :: xs.drop (posR xs r)
theorem entR_end {xs : List Rec} {r : Rec} {k : Nat} (hk : posR xs r = k) (h : k = xs.length) : entR xs r = xs.take k ++ r :: xs.drop k := by
  unfold entR
  rw [hk, List.getElem?_eq_none (by omega)]
theorem entR_no {xs : List Rec} {r : Rec} {k : Nat} (hk : posR xs r = k) (h : k < xs.length) (hs : sameR xs[k] r = false) : entR xs r = xs.take k ++ r :: xs.drop k := by
  unfold entR
  rw [hk, List.getElem?_eq_getElem h]
  simp only [hs, Bool.false_eq_true, if_false]
theorem entR_yes {xs : List Rec} {r : Rec} {k : Nat} (hk : posR xs r = k) (h : k < xs.length) (hs : sameR xs[k] r = true) : entR xs r = xs.set k (betterR xs[k] r) := by
  unfold entR
  rw [hk, List.getElem?_eq_getElem h]
  simp only [hs, if_true]
theorem entR_len (xs : List Rec) (r : Rec) : (entR xs r).length ≤ xs.length + 1 := by
  have := posR_le xs r
  unfold entR
  split
  · split <;> simp <;> omega
  · simp; omega
theorem better_ok {P : Rec → Prop} {q r : Rec} (hq : P q) (hr : P r) : P (betterR q r) := by
  unfold betterR; split <;> assumption
theorem entR_all {P : Rec → Prop} {xs : List Rec} {r : Rec} (h : ∀ x ∈ xs, P x) (hr : P r) : ∀ x ∈ entR xs r, P x := by
  intro x hx
  have key : x ∈ xs.take (posR xs r) ++ r :: xs.drop (posR xs r) → P x := fun hx => by
    rcases List.mem_append.1 hx with hx | hx
    · exact h x (List.mem_of_mem_take hx)
    · rcases List.mem_cons.1 hx with rfl | hx
      · exact hr
      · exact h x (List.mem_of_mem_drop hx)
  unfold entR at hx
  split at hx
  · rename_i q hq
    split at hx
    · rcases List.mem_or_eq_of_mem_set hx with hx | rfl
      · exact h x hx
      · exact better_ok (h q (List.mem_of_getElem? hq)) hr
    · exact key hx
  · exact key hx

/-- The records of y go into x one after another, as long as a book comes out. -/
def mergeTo (xs : List Rec) : List Rec → Option (List Rec)
  | [] => some xs
  | r :: ys => if bookB (entR xs r) then mergeTo (entR xs r) ys else none
theorem mergeTo_snoc {r : Rec} : ∀ {ys xs zs : List Rec}, mergeTo xs ys = some zs → mergeTo xs (ys ++ [r]) = if bookB (entR zs r) then some (entR zs r) else none
  | [], xs, zs, h => by
    cases h
    simp only [List.nil_append, mergeTo]
  | y :: ys, xs, zs, h => by
    simp only [mergeTo] at h
    simp only [List.cons_append, mergeTo]
    split at h
    · rename_i hb
      rw [if_pos hb]
      exact mergeTo_snoc h
    · cases h
theorem mergeTo_none {xs : List Rec} : ∀ {ys zs : List Rec}, mergeTo xs ys = none → mergeTo xs (ys ++ zs) = none
  | [], _, h => by cases h
  | y :: ys, zs, h => by
    simp only [mergeTo] at h
    simp only [List.cons_append, mergeTo]
    split at h
    · rename_i hb
      rw [if_pos hb]
      exact mergeTo_none h
    · rename_i hb
      rw [if_neg hb]
/-- What the merge gives, and whether it does. -/
def mergeA (xs ys : List Rec) : Option (List Rec) := if bookB xs && bookB ys then mergeTo xs ys else none
theorem merge_no {xs ys : List Rec} (h : (bookB xs && bookB ys) = false) : mergeA xs ys = none := by unfold mergeA; rw [h]; rfl
theorem merge_go {xs ys : List Rec} (h1 : bookB xs = true) (h2 : bookB ys = true) : mergeA xs ys = mergeTo xs ys := by unfold mergeA; rw [h1, h2]; rfl
theorem mergeTo_book : ∀ {ys xs zs : List Rec}, bookB xs = true → mergeTo xs ys = some zs → bookB zs = true
  | [], _, _, hx, h => by cases h; exact hx
  | y :: ys, xs, zs, _, h => by
    simp only [mergeTo] at h
    split at h
    · rename_i hb
      exact mergeTo_book hb h
    · cases h
theorem mergeTo_next {xs ys zs : List Rec} {k : Nat} (hk : k < ys.length) (h : mergeTo xs (ys.take k) = some zs) (hb : bookB (entR zs ys[k]) = true) : mergeTo xs (ys.take (k + 1)) = some (entR zs ys[k]) := by
  rw [List.take_succ_eq_append_getElem hk, mergeTo_snoc h, hb]; rfl
theorem mergeTo_stop {xs ys zs : List Rec} {k : Nat} (hk : k < ys.length) (h : mergeTo xs (ys.take k) = some zs) (hb : bookB (entR zs ys[k]) = false) : mergeTo xs ys = none := by
  have h1 : mergeTo xs (ys.take (k + 1)) = none := by rw [List.take_succ_eq_append_getElem hk, mergeTo_snoc h, hb]; rfl
  have := mergeTo_none (zs := ys.drop (k + 1)) h1
  rwa [List.take_append_drop] at this

/-- In a book: what is before the record lies ahead. -/
theorem before_down {xs : List Rec} (h : bookB xs = true) {r : Rec} {i j : Nat} (hj : j < xs.length) (hij : i ≤ j) (hb : beforeB xs[j] r = true) : beforeB (xs[i]'(by omega)) r = true := by
  rcases Nat.lt_or_ge i j with hlt | hge
  · exact before_trans (book_rising h i j hj hlt) hb
  · obtain rfl : i = j := by omega
    exact hb
end Go.Proofs.YtpiimlmfcdjbbaaGreatDoor

/- Plain facts: merging books: what a key's record becomes; both orders; a book with itself. No program in sight. -/
namespace Go.Proofs.YtpiimlmfcdjbbaaGreatDoor

/-- A record put in where it goes. -/
def insR : List Rec → Rec → List Rec
  | [], r => [r]
  | q :: xs, r => if beforeB q r then q :: insR xs r else if sameR q r then betterR q r :: xs else r :: q :: xs
theorem posR_cons_yes {q r : Rec} {xs : List Rec} (h : beforeB q r = true) : posR (q :: xs) r = posR xs r + 1 := by
  unfold posR; rw [List.takeWhile_cons, h]; rfl
theorem posR_cons_no {q r : Rec} {xs : List Rec} (h : beforeB q r = false) : posR (q :: xs) r = 0 := by
  unfold posR; rw [List.takeWhile_cons, h]; rfl
theorem entR_ins : ∀ (xs : List Rec) (r : Rec), entR xs r = insR xs r
  | [], r => rfl
  | q :: xs, r => by
    cases h : beforeB q r
    · unfold entR insR
      rw [posR_cons_no h, h]
      simp only [List.getElem?_cons_zero, Bool.false_eq_true, if_false, List.set_cons_zero, List.take_zero, List.drop_zero, List.nil_append]
    · have ih := entR_ins xs r
      unfold entR at ih
      unfold entR insR
      rw [posR_cons_yes h, h, if_pos rfl, ← ih]
      simp only [List.getElem?_cons_succ, List.set_cons_succ, List.take_succ_cons, List.drop_succ_cons]
      cases xs[posR xs r]? with
      | none => simp
      | some p => by_cases e : sameR p r = true <;> simp [e]
theorem ins_len : ∀ (xs : List Rec) (r : Rec), xs.length ≤ (insR xs r).length
  | [], r => by simp
  | q :: xs, r => by
    have := ins_len xs r
    unfold insR
    split
    · simp only [List.length_cons]; omega
    · split <;> simp
/-- The same key. -/
theorem same_iff {q r : Rec} : sameR q r = true ↔ q.name = r.name ∧ q.sys = r.sys := by
  unfold sameR; rw [Bool.and_eq_true, beq_iff_eq, decide_eq_true_eq]
theorem better_key (q r : Rec) (h : sameR q r = true) : (betterR q r).name = r.name ∧ (betterR q r).sys = r.sys := by
  obtain ⟨h1, h2⟩ := same_iff.1 h
  unfold betterR
  split
  · exact ⟨rfl, rfl⟩
  · exact ⟨h1, h2⟩
theorem before_congr {q r p : Rec} (h1 : q.name = r.name) (h2 : q.sys = r.sys) : beforeB q p = beforeB r p ∧ beforeB p q = beforeB p r := by
  unfold beforeB; rw [h1, h2]; exact ⟨rfl, rfl⟩
theorem before_irrefl (r : Rec) : beforeB r r = false := by
  unfold beforeB; rw [less_irrefl]; simp
theorem before_total {q r : Rec} (h : beforeB q r = false) (hs : sameR q r = false) : beforeB r q = true := by
  unfold beforeB at h ⊢
  rw [Bool.or_eq_false_iff] at h
  obtain ⟨h1, h2⟩ := h
  by_cases e : q.name = r.name
  · rw [e] at h2 ⊢
    rw [less_irrefl]
    simp only [beq_self_eq_true, Bool.true_and, decide_eq_false_iff_not, Bool.false_or, decide_eq_true_eq] at h2 ⊢
    have : ¬ q.sys = r.sys := fun k => by rw [same_iff.2 ⟨e, k⟩] at hs; cases hs
    omega
  · rw [less_total h1 e]; rfl
/-- Sorted and valid, of whatever length. -/
def ordB (xs : List Rec) : Prop := xs.Pairwise (fun a b => beforeB a b = true) ∧ ∀ r ∈ xs, recB r = true
theorem ins_all {P : Rec → Prop} : ∀ {xs : List Rec} {r : Rec}, (∀ x ∈ xs, P x) → P r → ∀ x ∈ insR xs r, P x := fun h hr => by
  rw [← entR_ins]; exact entR_all h hr
theorem better_all {P : Rec → Prop} {q r : Rec} (hq : P q) (hr : P r) : P (betterR q r) := better_ok hq hr
theorem ins_pair : ∀ {xs : List Rec} {r : Rec}, xs.Pairwise (fun a b => beforeB a b = true) → (insR xs r).Pairwise (fun a b => beforeB a b = true)
  | [], r, _ => by simp [insR]
  | q :: xs, r, h => by
    rw [List.pairwise_cons] at h
    unfold insR
    split
    · rename_i hb
      rw [List.pairwise_cons]
      exact ⟨ins_all h.1 hb, ins_pair h.2⟩
    · rename_i hb
      have hb : beforeB q r = false := by simpa using hb
      split
      · rename_i hs
        have hk := better_key q r hs
        obtain ⟨k1, k2⟩ := same_iff.1 hs
        rw [List.pairwise_cons]
        refine ⟨fun x hx => ?_, h.2⟩
        rw [(before_congr (p := x) (hk.1.trans k1.symm) (hk.2.trans k2.symm)).1]
        exact h.1 x hx
      · rename_i hs
        have hs : sameR q r = false := by simpa using hs
        have hrq := before_total hb hs
        rw [List.pairwise_cons]
        refine ⟨fun x hx => ?_, List.pairwise_cons.2 h⟩
        rcases List.mem_cons.1 hx with rfl | hx
        · exact hrq
        · exact before_trans hrq (h.1 x hx)
theorem ins_ord {xs : List Rec} {r : Rec} (h : ordB xs) (hr : recB r = true) : ordB (insR xs r) := ⟨ins_pair h.1, ins_all h.2 hr⟩
theorem book_ord {xs : List Rec} (h : bookB xs = true) : ordB xs ∧ xs.length ≤ 24 := by
  refine ⟨⟨book_pair h, fun r hr => ?_⟩, ?_⟩
  · obtain ⟨i, hi, rfl⟩ := List.getElem_of_mem hr
    exact book_rec h i hi
  · unfold bookB at h
    rw [Bool.and_eq_true, decide_eq_true_eq] at h
    exact h.2
theorem ord_book {xs : List Rec} (h : ordB xs) (hl : xs.length ≤ 24) : bookB xs = true := by
  unfold bookB bkOkTo
  rw [Bool.and_eq_true, decide_eq_true_eq]
  refine ⟨?_, hl⟩
  rw [List.all_eq_true]
  intro i hi
  have hi := List.mem_range.1 hi
  match i, hi with
  | 0, hi => rw [bkOk_zero xs hi]; exact h.2 _ (List.getElem_mem hi)
  | i + 1, hi =>
    rw [bkOk_succ xs i hi, h.2 _ (List.getElem_mem hi), Bool.true_and]
    exact List.pairwise_iff_getElem.1 h.1 i (i + 1) (by omega) hi (by omega)
/-- Better of both. -/
def combR : Option Rec → Option Rec → Option Rec
  | o, none => o
  | none, some r => some r
  | some p, some r => some (betterR p r)
theorem isRec_congr {n : List UInt8} {s : Int} {q r : Rec} (h1 : q.name = r.name) (h2 : q.sys = r.sys) : isRec n s q = isRec n s r := by
  unfold isRec; rw [h1, h2]
theorem isRec_iff {n : List UInt8} {s : Int} {r : Rec} : isRec n s r = true ↔ r.name = n ∧ r.sys = s := by
  unfold isRec; rw [Bool.and_eq_true, beq_iff_eq, decide_eq_true_eq]
theorem recOf_cons (q : Rec) (xs : List Rec) (n : List UInt8) (s : Int) : recOf (q :: xs) n s = if isRec n s q then some q else recOf xs n s := by
  unfold recOf
  rw [List.find?_cons]
  split <;> simp_all
theorem recOf_after {q : Rec} {xs : List Rec} {n : List UInt8} {s : Int} (h : ∀ x ∈ xs, beforeB q x = true) (hq : isRec n s q = true) : recOf xs n s = none := by
  unfold recOf
  rw [List.find?_eq_none]
  intro x hx hi
  obtain ⟨a1, a2⟩ := isRec_iff.1 hq
  obtain ⟨b1, b2⟩ := isRec_iff.1 hi
  have := h x hx
  rw [(before_congr (p := x) (a1.trans b1.symm) (a2.trans b2.symm)).1, before_irrefl] at this
  cases this
theorem recOf_ins : ∀ {xs : List Rec} {r : Rec} (_ : xs.Pairwise (fun a b => beforeB a b = true)) (n : List UInt8) (s : Int),
    recOf (insR xs r) n s = if isRec n s r then combR (recOf xs n s) (some r) else recOf xs n s
  | [], r, _, n, s => by
    show recOf [r] n s = _
    rw [recOf_cons]
    split <;> rfl
  | q :: xs, r, h, n, s => by
    rw [List.pairwise_cons] at h
    have ih := recOf_ins (r := r) h.2 n s
    unfold insR
    split
    · rename_i hb
      rw [recOf_cons, ih, recOf_cons]
      cases hq : isRec n s q
      · simp
      · have hr : isRec n s r = false := by
          cases e : isRec n s r
          · rfl
          · obtain ⟨a1, a2⟩ := isRec_iff.1 hq
            obtain ⟨b1, b2⟩ := isRec_iff.1 e
            rw [(before_congr (p := r) (a1.trans b1.symm) (a2.trans b2.symm)).1, before_irrefl] at hb
            cases hb
        rw [hr]; simp
    · rename_i hb
      have hb : beforeB q r = false := by simpa using hb
      split
      · rename_i hs
        obtain ⟨k1, k2⟩ := better_key q r hs
        obtain ⟨s1, s2⟩ := same_iff.1 hs
        rw [recOf_cons, recOf_cons, isRec_congr k1 k2, isRec_congr s1 s2]
        cases hr : isRec n s r <;> simp [combR]
      · rename_i hs
        have hs : sameR q r = false := by simpa using hs
        have hrq := before_total hb hs
        rw [recOf_cons]
        cases hr : isRec n s r
        · simp
        · rw [recOf_after (q := r) (xs := q :: xs) (fun x hx => by
            rcases List.mem_cons.1 hx with rfl | hx
            · exact hrq
            · exact before_trans hrq (h.1 x hx)) hr]
          rfl
/-- All of them put in. -/
def insAll (xs ys : List Rec) : List Rec := ys.foldl insR xs
theorem insAll_ord : ∀ {ys xs : List Rec}, ordB xs → (∀ y ∈ ys, recB y = true) → ordB (insAll xs ys)
  | [], _, h, _ => h
  | y :: ys, _, h, hy => insAll_ord (ys := ys) (ins_ord h (hy y (by simp))) fun z hz => hy z (by simp [hz])
theorem insAll_len : ∀ (ys xs : List Rec), xs.length ≤ (insAll xs ys).length
  | [], _ => Nat.le_refl _
  | y :: ys, xs => Nat.le_trans (ins_len xs y) (insAll_len ys (insR xs y))
theorem mergeTo_all' : ∀ {ys xs : List Rec}, ordB xs → (∀ y ∈ ys, recB y = true) → xs.length ≤ 24 → mergeTo xs ys = if (insAll xs ys).length ≤ 24 then some (insAll xs ys) else none
  | [], xs, _, _, hl => by
    show some xs = _
    rw [if_pos (show (insAll xs []).length ≤ 24 from hl)]; rfl
  | y :: ys, xs, h, hy, hl => by
    have ho := ins_ord h (hy y (by simp))
    have hin : insAll xs (y :: ys) = insAll (insR xs y) ys := rfl
    rw [mergeTo, entR_ins, hin]
    by_cases h24 : (insR xs y).length ≤ 24
    · rw [ord_book ho h24, if_pos rfl, mergeTo_all' ho (fun z hz => hy z (by simp [hz])) h24]
    · have hb : bookB (insR xs y) = false := by
        cases e : bookB (insR xs y)
        · rfl
        · exact absurd (book_ord e).2 h24
      have := insAll_len ys (insR xs y)
      rw [hb, if_neg (by decide), if_neg (by omega)]
theorem recOf_all : ∀ {ys xs : List Rec}, ordB xs → ordB ys → ∀ (n : List UInt8) (s : Int), recOf (insAll xs ys) n s = combR (recOf xs n s) (recOf ys n s)
  | [], xs, _, _, n, s => by
    show recOf xs n s = _
    cases recOf xs n s <;> rfl
  | y :: ys, xs, h, hy, n, s => by
    obtain ⟨hp, hr⟩ := hy
    rw [List.pairwise_cons] at hp
    have hin : insAll xs (y :: ys) = insAll (insR xs y) ys := rfl
    rw [hin, recOf_all (ins_ord h (hr y (by simp))) ⟨hp.2, fun z hz => hr z (by simp [hz])⟩ n s, recOf_ins h.1 n s, recOf_cons]
    cases e : isRec n s y
    · simp
    · rw [recOf_after hp.1 e]
      cases recOf xs n s <;> simp [combR]
theorem recOf_key {xs : List Rec} {n : List UInt8} {s : Int} {r : Rec} (h : recOf xs n s = some r) : r.name = n ∧ r.sys = s := isRec_iff.1 (List.find?_some h)
theorem rec_ext {p r : Rec} (h1 : p.name = r.name) (h2 : p.sys = r.sys) (h3 : p.size = r.size) (h4 : p.extra = r.extra) : p = r := by
  cases p; cases r; simp_all
theorem better_comm {p r : Rec} (h1 : p.name = r.name) (h2 : p.sys = r.sys) : betterR p r = betterR r p := by
  unfold betterR overR
  by_cases a : r.size < p.size
  · have b : ¬ p.size < r.size := by omega
    have c : ¬ r.size = p.size := by omega
    simp [a, b, c]
  · by_cases b : p.size < r.size
    · have c : ¬ p.size = r.size := by omega
      simp [a, b, c]
    · have c : p.size = r.size := by omega
      by_cases d : r.extra < p.extra
      · have e : ¬ p.extra < r.extra := by omega
        simp [c, d, e]
      · by_cases e : p.extra < r.extra
        · simp [c, d, e]
        · have f : p.extra = r.extra := by omega
          rw [rec_ext h1 h2 c f]
theorem comb_comm {xs ys : List Rec} (n : List UInt8) (s : Int) : combR (recOf xs n s) (recOf ys n s) = combR (recOf ys n s) (recOf xs n s) := by
  cases h1 : recOf xs n s with
  | none => cases recOf ys n s <;> rfl
  | some p => cases h2 : recOf ys n s with
    | none => rfl
    | some r =>
      obtain ⟨a1, a2⟩ := recOf_key h1
      obtain ⟨b1, b2⟩ := recOf_key h2
      simp only [combR]
      rw [better_comm (a1.trans b1.symm) (a2.trans b2.symm)]
theorem better_self (p : Rec) : betterR p p = p := by unfold betterR; split <;> rfl
theorem mem_recOf {xs : List Rec} (h : xs.Pairwise (fun a b => beforeB a b = true)) {r : Rec} : r ∈ xs ↔ recOf xs r.name r.sys = some r := by
  constructor
  · intro hr
    induction xs with
    | nil => cases hr
    | cons q xs ih =>
      rw [List.pairwise_cons] at h
      rw [recOf_cons]
      rcases List.mem_cons.1 hr with rfl | hr
      · rw [if_pos (isRec_iff.2 ⟨rfl, rfl⟩)]
      · rw [if_neg, ih h.2 hr]
        intro e
        have h1 := h.1 r hr
        obtain ⟨a1, a2⟩ := isRec_iff.1 e
        rw [(before_congr (p := r) a1 a2).1, before_irrefl] at h1
        cases h1
  · intro e; exact List.mem_of_find?_eq_some e
theorem ord_ext {xs ys : List Rec} (hx : ordB xs) (hy : ordB ys) (h : ∀ n s, recOf xs n s = recOf ys n s) : xs = ys := by
  refine ascN_ext (R := fun a b => beforeB a b = true) (fun a b h1 h2 => ?_) hx.1 hy.1 fun r => ?_
  · have := before_trans h1 h2
    rw [before_irrefl] at this
    cases this
  · rw [mem_recOf hx.1, mem_recOf hy.1, h]
/-- Both orders give the same book. -/
theorem merge_comm {x y z : List Rec} (h : mergeA x y = some z) : mergeA y x = some z := by
  unfold mergeA at h
  split at h
  · rename_i hb
    rw [Bool.and_eq_true] at hb
    obtain ⟨ox, lx⟩ := book_ord hb.1
    obtain ⟨oy, ly⟩ := book_ord hb.2
    have e : insAll x y = insAll y x := ord_ext (insAll_ord ox oy.2) (insAll_ord oy ox.2) fun n s => by rw [recOf_all ox oy, recOf_all oy ox, comb_comm]
    rw [mergeTo_all' ox oy.2 lx, e] at h
    rw [merge_go hb.2 hb.1, mergeTo_all' oy ox.2 ly]
    exact h
  · cases h
theorem merge_books {x y z : List Rec} (h : mergeA x y = some z) : bookB x = true ∧ bookB y = true ∧ bookB z = true := by
  unfold mergeA at h
  split at h
  · rename_i hb
    rw [Bool.and_eq_true] at hb
    exact ⟨hb.1, hb.2, mergeTo_book hb.1 h⟩
  · cases h
/-- A book merged with itself. -/
theorem merge_self {z : List Rec} (h : bookB z = true) : mergeA z z = some z := by
  obtain ⟨oz, lz⟩ := book_ord h
  have e : insAll z z = z := ord_ext (insAll_ord oz oz.2) oz fun n s => by
    rw [recOf_all oz oz]
    cases recOf z n s with
    | none => rfl
    | some r => simp only [combR]; rw [better_self]
  rw [merge_go h h, mergeTo_all' oz oz.2 lz, e, if_pos lz]
theorem merge_recOf {x y z : List Rec} (h : mergeA x y = some z) (n : List UInt8) (s : Int) : recOf z n s = combR (recOf x n s) (recOf y n s) := by
  obtain ⟨hx, hy, -⟩ := merge_books h
  obtain ⟨ox, lx⟩ := book_ord hx
  obtain ⟨oy, ly⟩ := book_ord hy
  rw [merge_go hx hy, mergeTo_all' ox oy.2 lx] at h
  split at h
  · cases h
    exact recOf_all ox oy n s
  · cases h
/-- A record only becomes smaller. -/
theorem merge_left {x y z : List Rec} (h : mergeA x y = some z) {r : Rec} (hr : r ∈ x) : ∃ q, recOf z r.name r.sys = some q ∧ q.size ≤ r.size := by
  obtain ⟨hx, -, -⟩ := merge_books h
  rw [merge_recOf h, (mem_recOf (book_ord hx).1.1).1 hr]
  cases recOf y r.name r.sys with
  | none => exact ⟨r, rfl, Int.le_refl _⟩
  | some q =>
    refine ⟨betterR r q, rfl, ?_⟩
    unfold betterR overR
    split
    · rename_i h
      simp only [Bool.or_eq_true, decide_eq_true_eq, Bool.and_eq_true] at h
      omega
    · exact Int.le_refl _
theorem merge_right {x y z : List Rec} (h : mergeA x y = some z) {r : Rec} (hr : r ∈ y) : ∃ q, recOf z r.name r.sys = some q ∧ q.size ≤ r.size := merge_left (merge_comm h) hr
end Go.Proofs.YtpiimlmfcdjbbaaGreatDoor

/- How Go values hold data in memory, with the blocks that are reached. No program in sight. -/
namespace Go.Proofs.YtpiimlmfcdjbbaaGreatDoor
open Go.RowKit

/-- A number that fits an int. -/
def I64 (n : Int) : Prop := -9223372036854775808 ≤ n ∧ n ≤ 9223372036854775807

/-- The cell at offset o of block b holds v; where wr, it may be written. -/
def cellIs (wr : Bool) (w : World) (b o : Nat) (v : Value) : Prop :=
  w.cell? ⟨b, o, none⟩ = some v ∧ (wr = true → w.frozen? ⟨b, o, none⟩ = false)

theorem cellIs.keep {wr : Bool} {w w' : World} {b o : Nat} {v : Value} (h : cellIs wr w b o v) (hb : w'.heap[b]? = w.heap[b]?) : cellIs wr w' b o v :=
  ⟨by rw [World.cell?_of_block (w := w) hb]; exact h.1, fun e => by rw [World.frozen?_of_block (w := w) hb]; exact h.2 e⟩
theorem cellIs.down {w : World} {b o : Nat} {v : Value} {wr : Bool} (h : cellIs wr w b o v) : cellIs false w b o v := ⟨h.1, fun e => by cases e⟩
theorem cellIs.lt {w : World} {b o : Nat} {v : Value} {wr : Bool} (h : cellIs wr w b o v) : b < w.heap.size := World.block_lt_of_cell? w _ h.1

/-- How a Go type holds data of type α in 'size' cells; the last argument: the blocks that are reached, one for each slice that is not empty. -/
structure Ty (α : Type) where
  size : Nat
  rep : Bool → World → List Value → α → List Nat → Prop
  len : ∀ {wr w cs x F}, rep wr w cs x F → cs.length = size
  lt : ∀ {wr w cs x F}, rep wr w cs x F → ∀ b ∈ F, b < w.heap.size
  keep : ∀ {wr w w' cs x F}, rep wr w cs x F → (∀ b ∈ F, w'.heap[b]? = w.heap[b]?) → rep wr w' cs x F
  down : ∀ {wr w cs x F}, rep wr w cs x F → rep false w cs x F

def Ty.int : Ty Int where
  size := 1
  rep _ _ cs n F := cs = [.int .i64 n] ∧ I64 n ∧ F = []
  len h := by obtain ⟨rfl, _, _⟩ := h; rfl
  lt h := by obtain ⟨_, _, rfl⟩ := h; simp
  keep h _ := h
  down h := h
def Ty.bool : Ty Bool where
  size := 1
  rep _ _ cs n F := cs = [.bool n] ∧ F = []
  len h := by obtain ⟨rfl, _⟩ := h; rfl
  lt h := by obtain ⟨_, rfl⟩ := h; simp
  keep h _ := h
  down h := h
def Ty.str : Ty ByteArray where
  size := 1
  rep _ _ cs s F := cs = [.string s] ∧ s.size ≤ 9223372036854775807 ∧ F = []
  len h := by obtain ⟨rfl, _, _⟩ := h; rfl
  lt h := by obtain ⟨_, _, rfl⟩ := h; simp
  keep h _ := h
  down h := h
def Ty.pair {α β : Type} (T : Ty α) (U : Ty β) : Ty (α × β) where
  size := T.size + U.size
  rep wr w cs x F := ∃ c d F1 F2, cs = c ++ d ∧ F = F1 ++ F2 ∧ T.rep wr w c x.1 F1 ∧ U.rep wr w d x.2 F2
  len h := by obtain ⟨c, d, F1, F2, rfl, _, h1, h2⟩ := h; simp [T.len h1, U.len h2]
  lt h := by
    obtain ⟨c, d, F1, F2, _, rfl, h1, h2⟩ := h
    intro b hb
    rcases List.mem_append.1 hb with hb | hb
    · exact T.lt h1 b hb
    · exact U.lt h2 b hb
  keep h hk := by
    obtain ⟨c, d, F1, F2, e1, rfl, h1, h2⟩ := h
    exact ⟨c, d, F1, F2, e1, rfl, T.keep h1 fun b hb => hk b (List.mem_append.2 (.inl hb)), U.keep h2 fun b hb => hk b (List.mem_append.2 (.inr hb))⟩
  down h := by
    obtain ⟨c, d, F1, F2, e1, e2, h1, h2⟩ := h
    exact ⟨c, d, F1, F2, e1, e2, T.down h1, U.down h2⟩
/-- The same cells, the data told otherwise. -/
def Ty.as {α β : Type} (T : Ty α) (g : β → α) : Ty β where
  size := T.size
  rep wr w cs x F := T.rep wr w cs (g x) F
  len h := T.len h
  lt h := T.lt h
  keep h hk := T.keep h hk
  down h := T.down h

section all
variable {α : Type} (T : Ty α)
/-- Cells that hold a list of elements, one behind the other. -/
def Ty.all (wr : Bool) (w : World) : List Value → List α → List Nat → Prop
  | cs, [], F => cs = [] ∧ F = []
  | cs, x :: xs, F => ∃ c d F1 F2, cs = c ++ d ∧ F = F1 ++ F2 ∧ T.rep wr w c x F1 ∧ Ty.all wr w d xs F2

variable {T}
theorem Ty.all_len {wr : Bool} {w : World} : ∀ {cs : List Value} {xs : List α} {F : List Nat}, T.all wr w cs xs F → cs.length = xs.length * T.size
  | _, [], _, h => by obtain ⟨rfl, _⟩ := h; simp
  | _, x :: xs, _, h => by
    obtain ⟨c, d, F1, F2, rfl, _, h1, h2⟩ := h
    rw [List.length_append, T.len h1, Ty.all_len h2, List.length_cons, Nat.add_mul]; omega
theorem Ty.all_lt {wr : Bool} {w : World} : ∀ {cs : List Value} {xs : List α} {F : List Nat}, T.all wr w cs xs F → ∀ b ∈ F, b < w.heap.size
  | _, [], _, h => by obtain ⟨_, rfl⟩ := h; simp
  | _, x :: xs, _, h => by
    obtain ⟨c, d, F1, F2, _, rfl, h1, h2⟩ := h
    intro b hb
    rcases List.mem_append.1 hb with hb | hb
    · exact T.lt h1 b hb
    · exact Ty.all_lt h2 b hb
theorem Ty.all_keep {wr : Bool} {w w' : World} : ∀ {cs : List Value} {xs : List α} {F : List Nat}, T.all wr w cs xs F → (∀ b ∈ F, w'.heap[b]? = w.heap[b]?) → T.all wr w' cs xs F
  | _, [], _, h, _ => h
  | _, x :: xs, _, h, hk => by
    obtain ⟨c, d, F1, F2, e1, rfl, h1, h2⟩ := h
    exact ⟨c, d, F1, F2, e1, rfl, T.keep h1 fun b hb => hk b (List.mem_append.2 (.inl hb)), Ty.all_keep h2 fun b hb => hk b (List.mem_append.2 (.inr hb))⟩
theorem Ty.all_down {wr : Bool} {w : World} : ∀ {cs : List Value} {xs : List α} {F : List Nat}, T.all wr w cs xs F → T.all false w cs xs F
  | _, [], _, h => h
  | _, x :: xs, _, h => by
    obtain ⟨c, d, F1, F2, e1, rfl, h1, h2⟩ := h
    exact ⟨c, d, F1, F2, e1, rfl, T.down h1, Ty.all_down h2⟩
theorem Ty.all_append {wr : Bool} {w : World} : ∀ {cs ds : List Value} {xs ys : List α} {F G : List Nat}, T.all wr w cs xs F → T.all wr w ds ys G → T.all wr w (cs ++ ds) (xs ++ ys) (F ++ G)
  | _, _, [], _, _, _, h, h' => by obtain ⟨rfl, rfl⟩ := h; exact h'
  | _, _, x :: xs, _, _, _, h, h' => by
    obtain ⟨c, d, F1, F2, rfl, rfl, h1, h2⟩ := h
    exact ⟨c, _, F1, _, List.append_assoc .., List.append_assoc .., h1, Ty.all_append h2 h'⟩
theorem Ty.all_one {wr : Bool} {w : World} {c : List Value} {x : α} {F : List Nat} (h : T.rep wr w c x F) : T.all wr w c [x] F :=
  ⟨c, [], F, [], by simp, by simp, h, rfl, rfl⟩
theorem Ty.all_snoc {wr : Bool} {w : World} {cs c : List Value} {xs : List α} {x : α} {F G : List Nat} (h : T.all wr w cs xs F) (h' : T.rep wr w c x G) : T.all wr w (cs ++ c) (xs ++ [x]) (F ++ G) :=
  Ty.all_append h (Ty.all_one h')
/-- The element at place k: what stands ahead of it, its own cells, what stands behind. -/
theorem Ty.all_split {wr : Bool} {w : World} : ∀ {cs : List Value} {xs : List α} {F : List Nat} (_ : T.all wr w cs xs F) (k : Nat) (hk : k < xs.length),
    ∃ c d e F1 F2 F3, cs = c ++ d ++ e ∧ F = F1 ++ F2 ++ F3 ∧ c.length = k * T.size ∧ T.all wr w c (xs.take k) F1 ∧ T.rep wr w d xs[k] F2 ∧ T.all wr w e (xs.drop (k + 1)) F3
  | _, x :: xs, _, h, 0, _ => by
    obtain ⟨c, d, F1, F2, rfl, rfl, h1, h2⟩ := h
    exact ⟨[], c, d, [], F1, F2, by simp, by simp, by simp, ⟨rfl, rfl⟩, h1, h2⟩
  | _, x :: xs, _, h, k + 1, hk => by
    obtain ⟨c, d, F1, F2, rfl, rfl, h1, h2⟩ := h
    obtain ⟨c', d', e', G1, G2, G3, rfl, rfl, hl, a1, a2, a3⟩ := Ty.all_split h2 k (by simpa using hk)
    exact ⟨c ++ c', d', e', F1 ++ G1, G2, G3, by simp, by simp, by rw [List.length_append, hl, T.len h1, Nat.add_mul]; omega, ⟨c, c', F1, G1, rfl, rfl, h1, a1⟩, by simpa using a2, by simpa using a3⟩
theorem Ty.all_take {wr : Bool} {w : World} {cs : List Value} {xs : List α} {F : List Nat} (h : T.all wr w cs xs F) (k : Nat) (hk : k ≤ xs.length) :
    ∃ F1, T.all wr w (cs.take (k * T.size)) (xs.take k) F1 ∧ ∀ b ∈ F1, b ∈ F := by
  rcases Nat.lt_or_ge k xs.length with hlt | hge
  · obtain ⟨c, d, e, F1, F2, F3, rfl, rfl, hl, a1, _, _⟩ := Ty.all_split h k hlt
    exact ⟨F1, by rw [← hl]; simpa using a1, fun b hb => by simp [hb]⟩
  · obtain rfl : k = xs.length := by omega
    exact ⟨F, by rw [List.take_length, ← Ty.all_len h, List.take_length]; exact h, fun _ h => h⟩
end all

/-- A slice value that holds a list. -/
def Ty.row {α : Type} (T : Ty α) (wr : Bool) (w : World) (v : Value) (xs : List α) (F : List Nat) : Prop :=
  ∃ (a : Option Addr) (cap : Nat) (cs : List Value) (G : List Nat), v = .slice a xs.length cap ∧ xs.length ≤ cap ∧ cap ≤ 9223372036854775807 ∧ T.all wr w cs xs G ∧
    ((xs = [] ∧ F = []) ∨ (0 < T.size ∧ xs ≠ [] ∧ ∃ b off, a = some ⟨b, off, none⟩ ∧ F = b :: G ∧ ∀ j (hj : j < cs.length), cellIs wr w b (off + j) cs[j]))

theorem Ty.row_lt {α : Type} {T : Ty α} {wr : Bool} {w : World} {v : Value} {xs : List α} {F : List Nat} (h : T.row wr w v xs F) : ∀ b ∈ F, b < w.heap.size := by
  obtain ⟨a, cap, cs, G, rfl, _, _, hall, h | ⟨hs, hne, b, off, rfl, rfl, hc⟩⟩ := h
  · obtain ⟨_, rfl⟩ := h; simp
  · intro b' hb'
    rcases List.mem_cons.1 hb' with rfl | hb'
    · have hl := Ty.all_len hall
      have hp : 0 < xs.length := List.length_pos_iff.2 hne
      exact (hc 0 (by rw [hl]; exact Nat.mul_pos hp hs)).lt
    · exact Ty.all_lt hall _ hb'
theorem Ty.row_keep {α : Type} {T : Ty α} {wr : Bool} {w w' : World} {v : Value} {xs : List α} {F : List Nat} (h : T.row wr w v xs F) (hk : ∀ b ∈ F, w'.heap[b]? = w.heap[b]?) : T.row wr w' v xs F := by
  obtain ⟨a, cap, cs, G, rfl, h1, h2, hall, h | ⟨hs, hne, b, off, rfl, rfl, hc⟩⟩ := h
  · obtain ⟨rfl, rfl⟩ := h
    exact ⟨a, cap, [], [], rfl, h1, h2, ⟨rfl, rfl⟩, .inl ⟨rfl, rfl⟩⟩
  · exact ⟨_, cap, cs, G, rfl, h1, h2, Ty.all_keep hall fun b' hb' => hk b' (List.mem_cons_of_mem _ hb'), .inr ⟨hs, hne, b, off, rfl, rfl, fun j hj => (hc j hj).keep (hk b List.mem_cons_self)⟩⟩
theorem Ty.row_down {α : Type} {T : Ty α} {wr : Bool} {w : World} {v : Value} {xs : List α} {F : List Nat} (h : T.row wr w v xs F) : T.row false w v xs F := by
  obtain ⟨a, cap, cs, G, rfl, h1, h2, hall, h | ⟨hs, hne, b, off, rfl, rfl, hc⟩⟩ := h
  · exact ⟨a, cap, cs, G, rfl, h1, h2, Ty.all_down hall, .inl h⟩
  · exact ⟨_, cap, cs, G, rfl, h1, h2, Ty.all_down hall, .inr ⟨hs, hne, b, off, rfl, rfl, fun j hj => (hc j hj).down⟩⟩

def Ty.slice {α : Type} (T : Ty α) : Ty (List α) where
  size := 1
  rep wr w cs xs F := ∃ v, cs = [v] ∧ T.row wr w v xs F
  len h := by obtain ⟨v, rfl, _⟩ := h; rfl
  lt h := by obtain ⟨v, _, h⟩ := h; exact Ty.row_lt h
  keep h hk := by obtain ⟨v, e, h⟩ := h; exact ⟨v, e, Ty.row_keep h hk⟩
  down h := by obtain ⟨v, e, h⟩ := h; exact ⟨v, e, Ty.row_down h⟩

theorem Ty.row_below {α : Type} {T : Ty α} {wr : Bool} {w w' : World} {B : Nat} {v : Value} {xs : List α} {F : List Nat} (h : T.row wr w v xs F) (hb : Below B w w') (hF : ∀ b ∈ F, b < B) : T.row wr w' v xs F :=
  Ty.row_keep h fun b hm => hb.block b (hF b hm)
theorem Ty.row_grow {α : Type} {T : Ty α} {wr : Bool} {w w' : World} {v : Value} {xs : List α} {F : List Nat} (h : T.row wr w v xs F) (hb : Below w.heap.size w w') : T.row wr w' v xs F :=
  Ty.row_below h hb (Ty.row_lt h)
/-- A slice that is not empty: its head, and its cells. -/
theorem Ty.row_view {α : Type} {T : Ty α} {wr : Bool} {w : World} {v : Value} {xs : List α} {F : List Nat} (h : T.row wr w v xs F) (hne : xs ≠ []) :
    ∃ b off cap cs G, v = .slice (some ⟨b, off, none⟩) xs.length cap ∧ xs.length ≤ cap ∧ cap ≤ 9223372036854775807 ∧ T.all wr w cs xs G ∧ F = b :: G ∧ ∀ j (hj : j < cs.length), cellIs wr w b (off + j) cs[j] := by
  obtain ⟨a, cap, cs, G, rfl, h1, h2, hall, ⟨e, _⟩ | ⟨hs, hne, b, off, rfl, rfl, hc⟩⟩ := h
  · exact absurd e hne
  · exact ⟨b, off, cap, cs, G, rfl, h1, h2, hall, rfl, hc⟩
theorem Ty.row_len {α : Type} {T : Ty α} {wr : Bool} {w : World} {v : Value} {xs : List α} {F : List Nat} (h : T.row wr w v xs F) : ∃ a cap, v = .slice a xs.length cap ∧ xs.length ≤ cap ∧ cap ≤ 9223372036854775807 := by
  obtain ⟨a, cap, cs, G, rfl, h1, h2, _⟩ := h
  exact ⟨a, cap, rfl, h1, h2⟩
theorem Ty.row_nil {α : Type} (T : Ty α) (wr : Bool) (w : World) (a : Option Addr) (cap : Nat) (h : cap ≤ 9223372036854775807) : T.row wr w (.slice a 0 cap) [] [] :=
  ⟨a, cap, [], [], rfl, Nat.zero_le _, h, ⟨rfl, rfl⟩, .inl ⟨rfl, rfl⟩⟩

/-- From the guide's owned row, its elements' own blocks beside it. -/
theorem Ty.row_of_owns {α : Type} {T : Ty α} {w : World} {base : Nat} {e : TypeId} {size : Nat} {v : Value} {xs : List α} {cs : List Value} {G : List Nat} (h : w.ownsRow base e size v xs.length cs) (hT : T.size = size) (hs : 0 < size)
    (hall : T.all true w cs xs G) :
    ∃ F, T.row true w v xs F ∧ (F = [] ∨ ∃ g, base ≤ g ∧ g < w.heap.size ∧ v.ownBlock = some g ∧ F = g :: G) ∧ (xs ≠ [] → F ≠ []) := by
  obtain ⟨hl, ⟨rfl, h0⟩ | ⟨g, cap, cur, rfl, hg, hh, hn, hm, hcs, ht⟩⟩ := h
  · have : xs = [] := List.length_eq_zero_iff.1 h0
    subst this
    exact ⟨[], Ty.row_nil _ _ _ _ _ (by omega), .inl rfl, by simp⟩
  · rcases Nat.eq_zero_or_pos xs.length with h0 | h0
    · have : xs = [] := List.length_eq_zero_iff.1 h0
      subst this
      exact ⟨[], Ty.row_nil _ _ _ _ _ ((by unfold maxLen at hm; omega)), .inl rfl, by simp⟩
    · have hlt : g < w.heap.size := by
        rcases Nat.lt_or_ge g w.heap.size with h | h
        · exact h
        · simp [Array.getElem?_eq_none h] at hh
      refine ⟨g :: G, ⟨_, cap, cs, G, rfl, hn, (by unfold maxLen at hm; omega), hall, .inr ⟨by omega, by rintro rfl; simp at h0, g, 0, rfl, rfl, fun j hj => ⟨?_, fun _ => ?_⟩⟩⟩, .inr ⟨g, hg, hlt, rfl, rfl⟩, by simp⟩
      · have hj' : j < cur.size := by
          rw [← ht] at hj
          simp at hj
          omega
        have e1 : cs[j] = cur[j] := by
          subst ht
          simp
        simp only [World.cell?, hh, Nat.zero_add]
        rw [e1]
        simp [hj']
      · simp [World.frozen?, hh]
end Go.Proofs.YtpiimlmfcdjbbaaGreatDoor

/- Memory facts: what a call has written; rows of ints. No program in sight. -/
namespace Go.Proofs.YtpiimlmfcdjbbaaGreatDoor
open Go.RowKit

/-- Of the blocks that were there none but those of F has turned. -/
structure Chg (F : List Nat) (w w' : World) : Prop where
  os : w'.os = w.os
  tape : w'.tape = w.tape
  output : w'.output = w.output
  size : w.heap.size ≤ w'.heap.size
  block : ∀ k, k < w.heap.size → k ∉ F → w'.heap[k]? = w.heap[k]?
theorem Chg.refl (F : List Nat) (w : World) : Chg F w w := ⟨rfl, rfl, rfl, Nat.le_refl _, fun _ _ _ => rfl⟩
theorem Chg.of_below {F : List Nat} {w w' : World} (h : Below w.heap.size w w') : Chg F w w' := ⟨h.os, h.tape, h.output, h.size, fun k hk _ => h.block k hk⟩
theorem Chg.mono {F G : List Nat} {w w' : World} (h : Chg F w w') (hs : ∀ b ∈ F, b ∈ G) : Chg G w w' := ⟨h.os, h.tape, h.output, h.size, fun k hk hn => h.block k hk fun hm => hn (hs k hm)⟩
theorem Chg.trans {F : List Nat} {a b c : World} (h : Chg F a b) (k : Chg F b c) : Chg F a c :=
  ⟨k.os.trans h.os, k.tape.trans h.tape, k.output.trans h.output, Nat.le_trans h.size k.size, fun i hi hn => (k.block i (Nat.lt_of_lt_of_le hi h.size) hn).trans (h.block i hi hn)⟩
theorem Chg.then {F : List Nat} {a b c : World} (h : Chg F a b) (k : Below b.heap.size b c) : Chg F a c := h.trans (.of_below k)
theorem Chg.alloc {F : List Nat} {a w : World} (h : Chg F a w) (o : Obj) : Chg F a (w.alloc o) := h.then (bal (bb _) o)
theorem Chg.set {F : List Nat} {a w : World} (h : Chg F a w) {p : Addr} (hp : p.block ∈ F) (u : Value) : Chg F a (w.setCell p u) :=
  h.trans ⟨rfl, rfl, rfl, by simp [World.setCell], fun k _ hn => Below.heap_setCell _ _ _ _ (fun e => hn (e ▸ hp))⟩
theorem Chg.below {F : List Nat} {B : Nat} {w w' : World} (h : Chg F w w') (hB : B ≤ w.heap.size) (hF : ∀ b ∈ F, B ≤ b) : Below B w w' :=
  ⟨h.os, h.tape, h.output, h.size, fun k hk => h.block k (Nat.lt_of_lt_of_le hk hB) fun hm => Nat.not_lt.2 (hF k hm) hk⟩
theorem Chg.row {α : Type} {T : Ty α} {F G : List Nat} {wr : Bool} {w w' : World} {v : Value} {xs : List α} (h : Chg F w w') (hr : T.row wr w v xs G) (hd : ∀ b ∈ G, b ∉ F) : T.row wr w' v xs G :=
  Ty.row_keep hr fun b hb => h.block b (Ty.row_lt hr b hb) (hd b hb)

theorem Ty.all_int {wr : Bool} {w : World} : ∀ {xs : List Int}, (∀ x ∈ xs, I64 x) → Ty.int.all wr w (xs.map (.int .i64)) xs []
  | [], _ => ⟨rfl, rfl⟩
  | x :: xs, h => ⟨[.int .i64 x], xs.map (.int .i64), [], [], rfl, rfl, ⟨rfl, h x List.mem_cons_self, rfl⟩, Ty.all_int fun y hy => h y (List.mem_cons_of_mem _ hy)⟩
theorem Ty.all_int_inv {wr : Bool} {w : World} : ∀ {cs : List Value} {xs : List Int} {F : List Nat}, Ty.int.all wr w cs xs F → cs = xs.map (.int .i64) ∧ F = [] ∧ ∀ x ∈ xs, I64 x
  | _, [], _, h => ⟨h.1, h.2, by simp⟩
  | _, x :: xs, _, h => by
    obtain ⟨c, d, F1, F2, rfl, rfl, ⟨rfl, hx, rfl⟩, h2⟩ := h
    obtain ⟨rfl, rfl, h3⟩ := Ty.all_int_inv h2
    exact ⟨rfl, rfl, fun y hy => by rcases List.mem_cons.1 hy with rfl | hy; exact hx; exact h3 y hy⟩
/-- A row of ints: nil or empty; or its cells. -/
theorem row_int {wr : Bool} {w : World} {v : Value} {xs : List Int} {F : List Nat} (h : Ty.int.row wr w v xs F) :
    ∃ a cap, v = .slice a xs.length cap ∧ xs.length ≤ cap ∧ cap ≤ 9223372036854775807 ∧ (∀ x ∈ xs, I64 x) ∧
      ((xs = [] ∧ F = []) ∨ (xs ≠ [] ∧ ∃ b off, a = some ⟨b, off, none⟩ ∧ F = [b] ∧ ∀ j (hj : j < xs.length), cellIs wr w b (off + j) (.int .i64 xs[j]))) := by
  obtain ⟨a, cap, cs, G, rfl, h1, h2, hall, h⟩ := h
  obtain ⟨rfl, rfl, hi⟩ := Ty.all_int_inv hall
  refine ⟨a, cap, rfl, h1, h2, hi, h.imp id ?_⟩
  rintro ⟨_, hne, b, off, rfl, rfl, hc⟩
  exact ⟨hne, b, off, rfl, rfl, fun j hj => by have := hc j (by simpa using hj); simpa using this⟩
theorem row_int_mk {wr : Bool} {w : World} {b off cap : Nat} {xs : List Int} (hi : ∀ x ∈ xs, I64 x) (h1 : xs.length ≤ cap) (h2 : cap ≤ 9223372036854775807) (hne : xs ≠ [])
    (hc : ∀ j (hj : j < xs.length), cellIs wr w b (off + j) (.int .i64 xs[j])) : Ty.int.row wr w (.slice (some ⟨b, off, none⟩) xs.length cap) xs [b] :=
  ⟨_, cap, xs.map (.int .i64), [], rfl, h1, h2, Ty.all_int hi, .inr ⟨by decide, hne, b, off, rfl, rfl, fun j hj => by simpa using hc j (by simpa using hj)⟩⟩

/-- m, m+1, ..: n numbers. -/
def marks (m : Int) (n : Nat) : List Int := (List.range n).map fun (j : Nat) => m + (j : Int)
theorem marks_length (m : Int) (n : Nat) : (marks m n).length = n := by simp [marks]
theorem marks_get (m : Int) (n j : Nat) (h : j < (marks m n).length) : (marks m n)[j] = m + j := by simp [marks]
theorem marks_i64 {m : Int} {n : Nat} (h0 : 0 ≤ m) (h1 : m + n ≤ 1000000000000000000) : ∀ x ∈ marks m n, I64 x := by
  intro x hx
  simp only [marks, List.mem_map, List.mem_range] at hx
  obtain ⟨j, hj, rfl⟩ := hx
  unfold I64; omega
end Go.Proofs.YtpiimlmfcdjbbaaGreatDoor

/- From the form's reading of an argument to 'Ty.rep'. No program in sight. -/
namespace Go.Proofs.YtpiimlmfcdjbbaaGreatDoor
open Go.RowKit Go.Deep

/-- Whatever reads as data at type t holds data by T. -/
def Opens (P : Program) (t : TypeId) {α : Type} (T : Ty α) : Prop :=
  ∀ (H : Type) (enc : TypeId × Value → H) (w : World) (spare : Nat → Bool) (held : Bool) (fuel : Nat) (cs : List Value) (y : DataW H × List MemPlace),
    DataW.trod enc P w 0 spare held fuel t cs = some y → ∃ x F, T.rep false w cs x F

theorem Opens.int {P : Program} {t : TypeId} (ht : P.underlying t = some (.int .i64)) : Opens P t Ty.int := by
  intro H enc w spare held fuel cs y h
  obtain ⟨n, rfl, _, hw⟩ := DataW.trod_int ht h
  have := bounds_i64 hw
  exact ⟨n, [], rfl, by unfold I64; omega, rfl⟩
theorem Opens.bool {P : Program} {t : TypeId} (ht : P.underlying t = some .bool) : Opens P t Ty.bool := by
  intro H enc w spare held fuel cs y h
  obtain ⟨b, rfl, _⟩ := DataW.trod_bool ht h
  exact ⟨b, [], rfl, rfl⟩
theorem Opens.str {P : Program} {t : TypeId} (ht : P.underlying t = some .string) : Opens P t Ty.str := by
  intro H enc w spare held fuel cs y h
  obtain ⟨s, rfl, _, hw⟩ := DataW.trod_string ht h
  unfold maxLen at hw
  exact ⟨s, [], rfl, by omega, rfl⟩

/-- No field. -/
def Ty.unit : Ty Unit where
  size := 0
  rep _ _ cs _ F := cs = [] ∧ F = []
  len h := by obtain ⟨rfl, _⟩ := h; rfl
  lt h := by obtain ⟨_, rfl⟩ := h; simp
  keep h _ := h
  down h := h

/-- The fields from one place on. -/
def OpensF (P : Program) : List Field → Nat → {α : Type} → Ty α → Prop
  | fs, off, _, T => ∀ (H : Type) (enc : TypeId × Value → H) (w : World) (spare : Nat → Bool) (held : Bool) (fuel : Nat) (cs : List Value),
      cs.length = off + T.size → (∀ f ∈ fs, ∃ y : DataW H × List MemPlace, DataW.trod enc P w 0 spare held fuel f.type ((cs.drop f.offset).take (P.cellsOf f.type)) = some y) → ∃ x F, T.rep false w (cs.drop off) x F
theorem OpensF.nil {P : Program} {off : Nat} : OpensF P [] off Ty.unit := by
  intro H enc w spare held fuel cs hl _
  exact ⟨(), [], List.drop_of_length_le (by rw [hl]; exact Nat.le_refl _), rfl⟩
theorem OpensF.cons {P : Program} {f : Field} {fs : List Field} {off : Nat} {α β : Type} {T : Ty α} {U : Ty β} (ho : f.offset = off) (hs : P.cellsOf f.type = T.size) (hT : Opens P f.type T) (hU : OpensF P fs (off + T.size) U) :
    OpensF P (f :: fs) off (T.pair U) := by
  intro H enc w spare held fuel cs hl hf
  obtain ⟨y, hy⟩ := hf f List.mem_cons_self
  obtain ⟨x, F, hx⟩ := hT H enc w spare held fuel _ y hy
  obtain ⟨z, G, hz⟩ := hU H enc w spare held fuel cs (by rw [hl]; exact (Nat.add_assoc _ _ _).symm) (fun g hg => hf g (List.mem_cons_of_mem _ hg))
  refine ⟨(x, z), F ++ G, _, _, F, G, ?_, rfl, hx, hz⟩
  rw [ho, hs, ← List.drop_drop, List.take_append_drop]
theorem Opens.struct {P : Program} {t : TypeId} {fs : Array Field} {α : Type} {T : Ty α} (ht : P.underlying t = some (.struct fs)) (hC : P.cellsOf t = T.size) (hf : OpensF P fs.toList 0 T) : Opens P t T := by
  intro H enc w spare held fuel cs y h
  obtain ⟨xs, n, _, rfl, hl, hlen, hxs⟩ := DataW.trod_struct ht h
  have := hf H enc w spare held n cs (by rw [hl, hC]; omega) (fun f hm => by
    obtain ⟨i, hi, e⟩ := List.getElem_of_mem hm
    have hi' : i < xs.length := by rw [hlen]; simpa using hi
    exact ⟨xs[i], by
      have h1 := hxs i f (by simpa [e] using (Array.getElem?_eq_getElem (xs := fs) (by simpa using hi)).trans (congrArg some (by simpa using e)))
      simpa [hi'] using h1⟩)
  simpa using this
theorem Opens.as {P : Program} {t : TypeId} {α β : Type} {T : Ty α} (g : β → α) (f : α → β) (hg : ∀ x, g (f x) = x) (h : Opens P t T) : Opens P t (T.as g) := by
  intro H enc w spare held fuel cs y hy
  obtain ⟨x, F, hx⟩ := h H enc w spare held fuel cs y hy
  exact ⟨f x, F, by show T.rep false w cs (g (f x)) F; rw [hg]; exact hx⟩

theorem add_spot {w : World} {a : Addr} {j : Nat} {v : Value} (h : w.cell? (a.add j) = some v) (hz : j = 0 ∨ 0 < j) : a.add j = ⟨a.block, a.off + j, none⟩ := by
  obtain ⟨b, o, s⟩ := a
  unfold Addr.add at *
  by_cases e : j = 0
  · subst e
    rw [if_pos rfl] at *
    cases s with
    | none => rfl
    | some x => simp [World.cell?] at h; split at h <;> simp at h
  · rw [if_neg e]

/-- Elements that can be read, one behind the other. -/
theorem Opens.elems {P : Program} {e : TypeId} {α : Type} {T : Ty α} (hC : P.cellsOf e = T.size) (hT : Opens P e T) {H : Type} {enc : TypeId × Value → H} {w : World} {spare : Nat → Bool} {held : Bool} {n : Nat} {a : Addr} :
    ∀ (len : Nat), (∀ i, i < len → ∃ cs' y, w.cells? 0 (a.add (i * P.cellsOf e)) (P.cellsOf e) = some cs' ∧ DataW.trod enc P w 0 spare held n e cs' = some y) →
      ∃ (xs : List α) (cs : List Value) (G : List Nat), xs.length = len ∧ T.all false w cs xs G ∧ ∀ j (hj : j < cs.length), w.cell? ⟨a.block, a.off + j, none⟩ = some cs[j]
  | 0, _ => ⟨[], [], [], rfl, ⟨rfl, rfl⟩, by simp⟩
  | len + 1, h => by
    obtain ⟨xs, cs, G, hl, hall, hc⟩ := Opens.elems hC hT len (fun i hi => h i (by omega))
    obtain ⟨cs', y, h1, h2⟩ := h len (by omega)
    obtain ⟨_, hcl, hat⟩ := World.cells?_some h1
    obtain ⟨x, F, hx⟩ := hT H enc w spare held n cs' y h2
    have hlen := Ty.all_len hall
    refine ⟨xs ++ [x], cs ++ cs', G ++ F, by simp [hl], Ty.all_snoc hall hx, fun j hj => ?_⟩
    by_cases hj1 : j < cs.length
    · rw [List.getElem_append_left hj1]; exact hc j hj1
    · rw [List.getElem_append_right (by omega)]
      have hj2 : j - cs.length < cs'.length := by rw [List.length_append] at hj; omega
      have h3 := hat (j - cs.length) (by omega)
      rw [add_add] at h3
      have e1 : len * P.cellsOf e + (j - cs.length) = j := by rw [hC, ← hl, ← hlen]; omega
      rw [e1, List.getElem?_eq_getElem hj2] at h3
      rw [← add_spot h3 (by omega)]; exact h3
theorem Opens.slice {P : Program} {t e : TypeId} {α : Type} {T : Ty α} (ht : P.underlying t = some (.slice e)) (hC : P.cellsOf e = T.size) (hs : 0 < T.size) (hT : Opens P e T) : Opens P t T.slice := by
  intro H enc w spare held fuel cs y h
  rcases open_slice ht h with ⟨rfl, _⟩ | ⟨a, len, cap, m, n, D, Pl, rfl, _, hl, hm, hmm, _, hi⟩
  · exact ⟨[], [], _, rfl, Ty.row_nil _ _ _ _ _ (by decide)⟩
  · have hle : len ≤ m := by rw [hmm]; split <;> omega
    obtain ⟨xs, ccs, G, hxl, hall, hc⟩ := Opens.elems (P := P) (e := e) (a := a) hC hT len (fun i hlt => by
      obtain ⟨cs', h1, h2⟩ := hi i (by omega)
      exact ⟨cs', _, h1, h2⟩)
    unfold maxLen at hm
    by_cases h0 : xs = []
    · subst h0
      obtain rfl : len = 0 := by simpa using hxl.symm
      exact ⟨[], [], _, rfl, Ty.row_nil _ _ _ _ _ (by omega)⟩
    · have hccs : ccs.length = xs.length * T.size := Ty.all_len hall
      have hp : 0 < xs.length := List.length_pos_iff.2 h0
      have h00 : 0 < ccs.length := by rw [hccs]; exact Nat.mul_pos hp hs
      have ha : a = ⟨a.block, a.off, none⟩ := by
        obtain ⟨cs', h1, _⟩ := hi 0 (by omega)
        obtain ⟨_, hcl, hat⟩ := World.cells?_some h1
        have h3 := hat 0 (by rw [hC]; exact hs)
        rw [add_add, List.getElem?_eq_getElem (by rw [hcl, hC]; exact hs)] at h3
        have := add_spot h3 (by omega)
        simpa [Addr.add] using this
      exact ⟨xs, a.block :: G, _, rfl, some a, cap, ccs, G, by rw [hxl], by omega, by omega, hall, .inr ⟨hs, h0, a.block, a.off, by rw [← ha], rfl, fun j hj => ⟨hc j hj, fun e => by cases e⟩⟩⟩
end Go.Proofs.YtpiimlmfcdjbbaaGreatDoor

/- Memory facts: elements of a fixed number of cells that hold no references. No program in sight. -/
namespace Go.Proofs.YtpiimlmfcdjbbaaGreatDoor
open Go.RowKit

/-- Data in a fixed number of cells, without references. -/
def Ty.flat {α : Type} (n : Nat) (enc : α → List Value) (good : α → Prop) (hn : ∀ x, (enc x).length = n) : Ty α where
  size := n
  rep _ _ cs x F := cs = enc x ∧ good x ∧ F = []
  len h := by obtain ⟨rfl, _, _⟩ := h; exact hn _
  lt h := by obtain ⟨_, _, rfl⟩ := h; simp
  keep h _ := h
  down h := h

section
variable {α : Type} {n : Nat} {enc : α → List Value} {good : α → Prop} {hn : ∀ x, (enc x).length = n}
theorem flat_all {wr : Bool} {w : World} : ∀ {xs : List α} {cs : List Value} {F : List Nat}, (Ty.flat n enc good hn).all wr w cs xs F ↔ cs = xs.flatMap enc ∧ (∀ x ∈ xs, good x) ∧ F = []
  | [], cs, F => by simp [Ty.all]
  | x :: xs, cs, F => by
    constructor
    · rintro ⟨c, d, F1, F2, rfl, rfl, ⟨rfl, hg, rfl⟩, h2⟩
      obtain ⟨rfl, h3, rfl⟩ := flat_all.1 h2
      exact ⟨rfl, fun y hy => by rcases List.mem_cons.1 hy with rfl | hy; exact hg; exact h3 y hy, rfl⟩
    · rintro ⟨rfl, h, rfl⟩
      exact ⟨enc x, xs.flatMap enc, [], [], rfl, rfl, ⟨rfl, h x List.mem_cons_self, rfl⟩, flat_all.2 ⟨rfl, fun y hy => h y (List.mem_cons_of_mem _ hy), rfl⟩⟩
theorem flat_len (hn : ∀ x, (enc x).length = n) (xs : List α) : (xs.flatMap enc).length = xs.length * n := by
  induction xs with
  | nil => simp
  | cons x xs ih => rw [List.flatMap_cons, List.length_append, ih, hn, List.length_cons, Nat.add_mul]; omega
theorem flat_get (hn : ∀ x, (enc x).length = n) : ∀ (xs : List α) (j : Nat) (hj : j < xs.length) (i : Nat), i < n → (xs.flatMap enc)[j * n + i]? = (enc xs[j])[i]?
  | x :: xs, 0, _, i, hi => by
    rw [List.flatMap_cons, Nat.zero_mul, Nat.zero_add, List.getElem?_append_left (by rw [hn]; exact hi)]; rfl
  | x :: xs, j + 1, hj, i, hi => by
    rw [List.flatMap_cons, List.getElem?_append_right (by rw [hn, Nat.add_mul]; omega), hn]
    rw [show (j + 1) * n + i - n = j * n + i by rw [Nat.add_mul]; omega]
    exact flat_get hn xs j (by simpa using hj) i hi
theorem flat_at (hn : ∀ x, (enc x).length = n) (xs : List α) (q : Nat) (hq : q < xs.length * n) : ∃ j i, j < xs.length ∧ i < n ∧ q = j * n + i := by
  have h0 : 0 < n := by rcases Nat.eq_zero_or_pos n with h | h; (subst h; simp at hq); exact h
  refine ⟨q / n, q % n, (Nat.div_lt_iff_lt_mul h0).2 hq, Nat.mod_lt _ h0, ?_⟩
  rw [Nat.mul_comm]; exact (Nat.div_add_mod q n).symm

/-- A row of flat elements: nil or empty; or its cells. -/
theorem row_flat {wr : Bool} {w : World} {v : Value} {xs : List α} {F : List Nat} (h : (Ty.flat n enc good hn).row wr w v xs F) :
    ∃ a cap, v = .slice a xs.length cap ∧ xs.length ≤ cap ∧ cap ≤ 9223372036854775807 ∧ (∀ x ∈ xs, good x) ∧
      ((xs = [] ∧ F = []) ∨ (0 < n ∧ xs ≠ [] ∧ ∃ b off, a = some ⟨b, off, none⟩ ∧ F = [b] ∧ ∀ j (hj : j < xs.length) i (u : Value), (enc xs[j])[i]? = some u → cellIs wr w b (off + (j * n + i)) u)) := by
  obtain ⟨a, cap, cs, G, rfl, h1, h2, hall, h⟩ := h
  obtain ⟨rfl, hg, rfl⟩ := flat_all.1 hall
  refine ⟨a, cap, rfl, h1, h2, hg, h.imp id ?_⟩
  rintro ⟨h0, hne, b, off, rfl, rfl, hc⟩
  refine ⟨h0, hne, b, off, rfl, rfl, fun j hj i u hu => ?_⟩
  have hi : i < n := by have := (List.getElem?_eq_some_iff.1 hu).1; rwa [hn] at this
  have hlt : j * n + i < (xs.flatMap enc).length := by
    rw [flat_len hn]
    have : (j + 1) * n ≤ xs.length * n := Nat.mul_le_mul_right n hj
    rw [Nat.add_mul] at this; omega
  have h3 := hc (j * n + i) hlt
  have h4 := flat_get hn xs j hj i hi
  rw [List.getElem?_eq_getElem hlt, hu] at h4
  rw [Option.some.inj h4] at h3
  exact h3
theorem row_flat_mk {wr : Bool} {w : World} {b off cap : Nat} {xs : List α} (hg : ∀ x ∈ xs, good x) (h1 : xs.length ≤ cap) (h2 : cap ≤ 9223372036854775807) (hne : xs ≠ []) (h0 : 0 < n)
    (hc : ∀ j (hj : j < xs.length) i (u : Value), (enc xs[j])[i]? = some u → cellIs wr w b (off + (j * n + i)) u) : (Ty.flat n enc good hn).row wr w (.slice (some ⟨b, off, none⟩) xs.length cap) xs [b] := by
  refine ⟨_, cap, xs.flatMap enc, [], rfl, h1, h2, flat_all.2 ⟨rfl, hg, rfl⟩, .inr ⟨h0, hne, b, off, rfl, rfl, fun q hq => ?_⟩⟩
  obtain ⟨j, i, hj, hi, rfl⟩ := flat_at hn xs q (by rw [flat_len hn] at hq; exact hq)
  refine hc j hj i _ ?_
  rw [← flat_get hn xs j hj i hi, List.getElem?_eq_getElem hq]
/-- The same cells told by another opening. -/
theorem Opens.flat {P : Program} {t : TypeId} {β : Type} {T : Ty β} (h : Opens P t T) (f : β → α) (hf : ∀ w cs x F, T.rep false w cs x F → cs = enc (f x) ∧ good (f x) ∧ F = []) : Opens P t (Ty.flat n enc good hn) := by
  intro H ec w spare held fuel cs y hy
  obtain ⟨x, F, hx⟩ := h H ec w spare held fuel cs y hy
  exact ⟨f x, F, hf w cs x F hx⟩
end
end Go.Proofs.YtpiimlmfcdjbbaaGreatDoor

/- Memory facts: rows of flat elements that are made and then filled, element by element. No program in sight. -/
namespace Go.Proofs.YtpiimlmfcdjbbaaGreatDoor
open Go.RowKit

/-- The elements f 0, f 1, .. lie in block B, one behind the other, and may be written. -/
def FlatAt {α : Type} (enc : α → List Value) (n B len : Nat) (f : Nat → α) (w : World) : Prop := ∀ j, j < len → ∀ (i : Nat) (u : Value), (enc (f j))[i]? = some u → cellIs true w B (j * n + i) u

section
variable {α : Type} {enc : α → List Value} {n B len : Nat} {f : Nat → α} {w w' : World}
theorem FlatAt.grow (h : FlatAt enc n B len f w) (hb : Below w.heap.size w w') : FlatAt enc n B len f w' := fun j hj i u hu =>
  (h j hj i u hu).keep (hb.block B (h j hj i u hu).lt)
theorem FlatAt.mono {len' : Nat} {g : Nat → α} (h : FlatAt enc n B len f w) (hl : len' ≤ len) (hg : ∀ j, j < len' → g j = f j) : FlatAt enc n B len' g w := fun j hj i u hu =>
  h j (by omega) i u (by rw [← hg j hj]; exact hu)
theorem FlatAt.cell (h : FlatAt enc n B len f w) {j : Nat} (hj : j < len) {i : Nat} {u : Value} (hu : (enc (f j))[i]? = some u) : w.cell? ⟨B, j * n + i, none⟩ = some u := (h j hj i u hu).1
theorem FlatAt.frozen (h : FlatAt enc n B len f w) {j : Nat} (hj : j < len) {i : Nat} {u : Value} (hu : (enc (f j))[i]? = some u) : w.frozen? ⟨B, j * n + i, none⟩ = false := (h j hj i u hu).2 rfl
/-- Behind make: every element is the zero value. -/
theorem FlatAt.made {base : Nat} {e : TypeId} {cap : Nat} {z : α} {zc : Array Value} (hz : enc z = zc.toList) (hn : zc.size = n) (h : w.ownsRow base e n (.slice (some ⟨B, 0, none⟩) len cap) len (madeCells zc (len * n)).toList) : FlatAt enc n B len (fun _ => z) w := by
  intro j hj i u hu
  have hi : i < n := by
    have := (List.getElem?_eq_some_iff.1 hu).1
    rw [hz, Array.length_toList, hn] at this
    exact this
  have hlt : j * n + i < len * n := by
    have : (j + 1) * n ≤ len * n := Nat.mul_le_mul_right n hj
    rw [Nat.add_mul] at this; omega
  refine ⟨?_, fun _ => h.frozenAt _⟩
  rw [h.cellAt _ hlt, Array.getElem?_toList]
  have hm : (j * n + i) % n = i := by rw [Nat.mul_comm, Nat.mul_add_mod, Nat.mod_eq_of_lt hi]
  rw [hz, Array.getElem?_toList] at hu
  unfold madeCells
  rw [Array.getElem?_map, Array.getElem?_range, if_pos hlt]
  simp only [Option.map_some, hn, hm]
  rw [getElem!_def, hu]
/-- The finished row. -/
theorem FlatAt.row {good : α → Prop} {hne : ∀ x, (enc x).length = n} {xs : List α} {z : α} {cap : Nat} (h : FlatAt enc n B xs.length (fun j => xs.getD j z) w) (hg : ∀ x ∈ xs, good x) (h1 : xs.length ≤ cap) (h2 : cap ≤ 9223372036854775807) (hx : xs ≠ []) (h0 : 0 < n) :
    (Ty.flat n enc good hne).row true w (.slice (some ⟨B, 0, none⟩) xs.length cap) xs [B] := by
  refine row_flat_mk hg h1 h2 hx h0 fun j hj i u hu => ?_
  rw [Nat.zero_add]
  refine h j hj i u ?_
  show (enc (xs.getD j z))[i]? = some u
  rw [List.getD_eq_getElem?_getD, List.getElem?_eq_getElem hj]
  exact hu
theorem set_ne' (w : World) {b o o' : Nat} {u : Value} (h : o ≠ o') : (w.setCell ⟨b, o, none⟩ u).cell? ⟨b, o', none⟩ = w.cell? ⟨b, o', none⟩ := World.cell?_setCell_other w _ _ _ (by simp only [ne_eq, Addr.mk.injEq]; omega)
theorem set_eq' (w : World) {b o : Nat} {u v : Value} (h : w.cell? ⟨b, o, none⟩ = some v) : (w.setCell ⟨b, o, none⟩ u).cell? ⟨b, o, none⟩ = some u := World.cell?_setCell_same' _ _ _ (by rw [h]; rfl)
/-- An element of one cell is stored. -/
theorem FlatAt.set1 {f : Nat → α} (hn : ∀ x, (enc x).length = 1) (h : FlatAt enc 1 B len f w) {k : Nat} {x : α} {u0 : Value} (he : enc x = [u0]) :
    FlatAt enc 1 B len (fun j => if j = k then x else f j) (w.setCell ⟨B, k, none⟩ u0) := by
  intro j hj i u hu
  have hi : i < 1 := by have := (List.getElem?_eq_some_iff.1 hu).1; rwa [hn] at this
  obtain rfl : i = 0 := by omega
  have hold : ∃ v, (enc (f j))[0]? = some v := ⟨_, List.getElem?_eq_getElem (by rw [hn]; decide)⟩
  obtain ⟨v, hv⟩ := hold
  have hc := h j hj 0 v hv
  refine ⟨?_, fun _ => by rw [World.frozen?_setCell]; exact hc.2 rfl⟩
  by_cases e : j = k
  · subst e
    simp only [if_true, he] at hu
    simp at hu; subst hu
    have := hc.1
    rw [Nat.mul_one, Nat.add_zero] at this ⊢
    exact set_eq' w this
  · simp only [if_neg e] at hu
    rw [set_ne' w (by omega)]
    rw [hv] at hu; cases hu
    exact hc.1
/-- An element of two cells is stored. -/
theorem FlatAt.set2 {f : Nat → α} (hn : ∀ x, (enc x).length = 2) (h : FlatAt enc 2 B len f w) {k : Nat} {x : α} {u0 u1 : Value} (he : enc x = [u0, u1]) :
    FlatAt enc 2 B len (fun j => if j = k then x else f j) ((w.setCell ⟨B, k * 2, none⟩ u0).setCell ⟨B, k * 2 + 1, none⟩ u1) := by
  intro j hj i u hu
  have hi : i < 2 := by have := (List.getElem?_eq_some_iff.1 hu).1; rwa [hn] at this
  obtain ⟨v, hv⟩ : ∃ v, (enc (f j))[i]? = some v := ⟨_, List.getElem?_eq_getElem (by rw [hn]; exact hi)⟩
  have hc := h j hj i v hv
  refine ⟨?_, fun _ => by rw [World.frozen?_setCell, World.frozen?_setCell]; exact hc.2 rfl⟩
  by_cases e : j = k
  · subst e
    simp only [if_true, he] at hu
    match i, hi, hu with
    | 0, _, hu =>
      simp at hu; subst hu
      rw [set_ne' _ (by omega)]
      exact set_eq' w hc.1
    | 1, _, hu =>
      simp at hu; subst hu
      exact set_eq' _ ((set_ne' w (by omega)).trans hc.1)
  · simp only [if_neg e] at hu
    rw [set_ne' _ (by omega), set_ne' w (by omega)]
    rw [hv] at hu; cases hu
    exact hc.1
/-- An element of four cells is stored. -/
theorem FlatAt.set4 {f : Nat → α} (hn : ∀ x, (enc x).length = 4) (h : FlatAt enc 4 B len f w) {k : Nat} {x : α} {u0 u1 u2 u3 : Value} (he : enc x = [u0, u1, u2, u3]) :
    FlatAt enc 4 B len (fun j => if j = k then x else f j) ((((w.setCell ⟨B, k * 4, none⟩ u0).setCell ⟨B, k * 4 + 1, none⟩ u1).setCell ⟨B, k * 4 + 2, none⟩ u2).setCell ⟨B, k * 4 + 3, none⟩ u3) := by
  intro j hj i u hu
  have hi : i < 4 := by have := (List.getElem?_eq_some_iff.1 hu).1; rwa [hn] at this
  obtain ⟨v, hv⟩ : ∃ v, (enc (f j))[i]? = some v := ⟨_, List.getElem?_eq_getElem (by rw [hn]; exact hi)⟩
  have hc := h j hj i v hv
  refine ⟨?_, fun _ => by rw [World.frozen?_setCell, World.frozen?_setCell, World.frozen?_setCell, World.frozen?_setCell]; exact hc.2 rfl⟩
  by_cases e : j = k
  · subst e
    simp only [if_true, he] at hu
    match i, hi, hu with
    | 0, _, hu =>
      simp at hu; subst hu
      rw [set_ne' _ (by omega), set_ne' _ (by omega), set_ne' _ (by omega)]
      exact set_eq' w hc.1
    | 1, _, hu =>
      simp at hu; subst hu
      rw [set_ne' _ (by omega), set_ne' _ (by omega)]
      exact set_eq' _ ((set_ne' w (by omega)).trans hc.1)
    | 2, _, hu =>
      simp at hu; subst hu
      rw [set_ne' _ (by omega)]
      exact set_eq' _ ((set_ne' _ (by omega)).trans ((set_ne' w (by omega)).trans hc.1))
    | 3, _, hu =>
      simp at hu; subst hu
      exact set_eq' _ ((set_ne' _ (by omega)).trans ((set_ne' _ (by omega)).trans ((set_ne' w (by omega)).trans hc.1)))
  · simp only [if_neg e] at hu
    rw [set_ne' _ (by omega), set_ne' _ (by omega), set_ne' _ (by omega), set_ne' w (by omega)]
    rw [hv] at hu; cases hu
    exact hc.1
end

/-- What has been copied so far: the first k elements, zeros behind. -/
def filled {α : Type} (xs : List α) (z : α) (k : Nat) (j : Nat) : α := if j < k then xs.getD j z else z
theorem filled_zero {α : Type} (xs : List α) (z : α) : filled xs z 0 = fun _ => z := by funext j; simp [filled]
theorem filled_succ {α : Type} (xs : List α) (z : α) (k : Nat) (hk : k < xs.length) : filled xs z (k + 1) = fun j => if j = k then xs[k] else filled xs z k j := by
  funext j
  unfold filled
  by_cases e : j = k
  · subst e
    rw [if_pos (by omega), if_pos rfl, List.getD_eq_getElem?_getD, List.getElem?_eq_getElem hk]; rfl
  · rw [if_neg e]
    by_cases h : j < k
    · rw [if_pos (by omega), if_pos h]
    · rw [if_neg (by omega), if_neg h]
theorem FlatAt.done {α : Type} {enc : α → List Value} {n B : Nat} {w : World} {xs : List α} {z : α} (h : FlatAt enc n B xs.length (filled xs z xs.length) w) : FlatAt enc n B xs.length (fun j => xs.getD j z) w :=
  h.mono (Nat.le_refl _) fun j hj => by unfold filled; rw [if_pos hj]
end Go.Proofs.YtpiimlmfcdjbbaaGreatDoor

/- Contracts: rows of ints in the laws: compared, marked, held, copied. -/
namespace Go.Proofs.YtpiimlmfcdjbbaaGreatDoor
open Go.RowKit

/- left out: the seat has no laws.eqIntS -/

/-- What has been marked so far. -/
def MarkRel (b off : Nat) (m : Int) (xs : List Int) (k : Nat) (w wr : World) : Prop :=
  (∀ j (hj : j < xs.length), cellIs true wr b (off + j) (.int .i64 (if j < k then m + j else xs[j]))) ∧ Chg [b] w wr
theorem MarkRel.step {b off : Nat} {m : Int} {xs : List Int} {k : Nat} {w wr : World} (h : MarkRel b off m xs k w wr) (hk : k < xs.length) : MarkRel b off m xs (k + 1) w (wr.setCell ⟨b, off + k, none⟩ (.int .i64 (m + k))) := by
  refine ⟨fun j hj => ?_, h.2.set (by simp) _⟩
  have hc := h.1 j hj
  by_cases e : j = k
  · subst e
    refine ⟨?_, fun _ => ?_⟩
    · rw [if_pos (by omega)]; exact World.cell?_setCell_same' _ _ _ (by rw [hc.1]; rfl)
    · rw [World.frozen?_setCell]; exact hc.2 rfl
  · refine ⟨?_, fun _ => ?_⟩
    · rw [World.cell?_setCell_other wr _ _ _ (by simp only [ne_eq, Addr.mk.injEq]; omega)]
      rw [hc.1]
      by_cases h1 : j < k
      · rw [if_pos h1, if_pos (by omega)]
      · rw [if_neg h1, if_neg (by omega)]
    · rw [World.frozen?_setCell]; exact hc.2 rfl

def MarkPost {α : Type} (T : Ty α) (w : World) (v : Value) (k : Int) (ys : List α) (F : List Nat) (e : Ending) (w' : World) : Prop :=
  e = .returned (.int .i64 k) ∧ T.row true w' v ys F ∧ Chg F w w'

/- left out: the seat has no laws.markIntS -/

/-- What 'held' gives: past the last mark, or -1. -/
def heldOf (xs : List Int) (m : Int) : Int := if xs = marks m xs.length then m + xs.length else -1
theorem marks_snoc (m : Int) (n : Nat) : marks m (n + 1) = marks m n ++ [m + n] := by simp [marks, List.range_succ]

/- left out: the seat has no laws.heldIntS -/

/-- What 'to' gives: a row of its own with the same data. -/
def OwnPost {α : Type} (T : Ty α) (w : World) (xs : List α) (e : Ending) (w' : World) : Prop :=
  ∃ v F, e = .returned v ∧ T.row true w' v xs F ∧ F.Nodup ∧ (∀ b ∈ F, w.heap.size ≤ b) ∧ Below w.heap.size w w'

theorem infoInt : (Tryz.prog.info? 3).map (fun i => (i.zero, i.size, i.bytes)) = some (some (.int .i64 0), 1, 8) := by kernel_rfl

/-- What has been copied so far. -/
def CopyRel (xs : List Int) (k : Nat) (w wr : World) : Prop :=
  (∀ j (hj : j < xs.length), cellIs true wr w.heap.size (0 + j) (.int .i64 (if j < k then xs[j] else 0))) ∧ Below w.heap.size w wr
theorem CopyRel.step {xs : List Int} {k : Nat} {w wr : World} (h : CopyRel xs k w wr) (hk : k < xs.length) : CopyRel xs (k + 1) w (wr.setCell ⟨w.heap.size, k, none⟩ (.int .i64 xs[k])) := by
  refine ⟨fun j hj => ?_, h.2.setCell (by simp) _⟩
  have hc := h.1 j hj
  by_cases e : j = k
  · subst e
    refine ⟨?_, fun _ => ?_⟩
    · rw [if_pos (by omega), Nat.zero_add]; exact World.cell?_setCell_same' _ _ _ (by have := hc.1; rw [Nat.zero_add] at this; rw [this]; rfl)
    · rw [World.frozen?_setCell]; exact hc.2 rfl
  · refine ⟨?_, fun _ => ?_⟩
    · rw [World.cell?_setCell_other wr _ _ _ (by simp only [ne_eq, Addr.mk.injEq]; omega)]
      rw [hc.1]
      by_cases h1 : j < k
      · rw [if_pos h1, if_pos (by omega)]
      · rw [if_neg h1, if_neg (by omega)]
    · rw [World.frozen?_setCell]; exact hc.2 rfl

theorem hown_cell {w : World} {g n : Nat} {cur : Array Value} {e : TypeId} {fr : Nat × Nat} {cs : List Value} (hh : w.heap[g]? = some (.cells cur e fr)) (ht : cur.toList.take n = cs) {j : Nat} (hj : j < n) : w.cell? ⟨g, j, none⟩ = cs[j]? := by
  subst ht
  simp [World.cell?, hh, hj]

/- left out: the seat has no laws.toIntS -/
end Go.Proofs.YtpiimlmfcdjbbaaGreatDoor

/- Contracts of small functions on numbers and bytes. -/
namespace Go.Proofs.YtpiimlmfcdjbbaaGreatDoor
open Go.RowKit

set_option maxHeartbeats 400000 in
theorem l1In_any (x a b : Int) (w : World) :
    Calls Tryz.prog 50 #[.int .i64 x, .int .i64 a, .int .i64 b] w fun e w' => e = .returned (.bool (inB x a b)) ∧ w = w' := by
  by_cases h : a ≤ x
  · go_enter Tryz.func50, Tryz.ntmps50
    go_wp2
    go_ret
    exact ⟨ret_bool (by simp [inB, h]), rfl⟩
  · go_enter Tryz.func50, Tryz.ntmps50
    go_wp2
    go_ret
    exact ⟨ret_bool (by simp [inB]; omega), rfl⟩

set_option maxHeartbeats 400000 in
theorem within_any (x a b : Int) (w : World) :
    Calls Tryz.prog 24 #[.int .i64 x, .int .i64 a, .int .i64 b] w fun e w' => e = .returned (.bool (inB x a b)) ∧ w = w' := by
  by_cases h : a ≤ x
  · go_enter Tryz.func24, Tryz.ntmps24
    go_wp2
    go_ret
    exact ⟨ret_bool (by simp [inB, h]), rfl⟩
  · go_enter Tryz.func24, Tryz.ntmps24
    go_wp2
    go_ret
    exact ⟨ret_bool (by simp [inB]; omega), rfl⟩

/- left out: the seat has no spec.l1Stands -/
end Go.Proofs.YtpiimlmfcdjbbaaGreatDoor
