/- Lemmas and contracts for a law, put together out of several texts: PlA BookA BookB PlB PlC BtB NumA PbA StrA StrB StrC StrD StrE RepA. -/
import Derived.WalkKit
import Derived.Lib.ItoaNum
import Derived.Lib.IndexBytes
import Derived.Lib.IndexLaws
import Derived.Lib.IndexMore
import Derived.Lib.AtoiAll
import Derived.Test.YtahbepajeplcmaaDoorProg
import Derived.WalkLawsBesides
import Derived.WalkSpells
import Derived.Test.YtahbepajeplcmaaDoorShelf
import Derived.Lib.IndexAny
import Derived.Lib.QuietBelow
import Derived.BigQuiet
import Derived.Lib.SmallJoins
import Derived.Below
/- Plain facts on byte strings: no program in sight. -/
namespace Go.Proofs.YtahbepajeplcmaaDoor

/-- The bytes of a string. -/
def bl (s : ByteArray) : List UInt8 := s.data.toList
/-- The string of some bytes. -/
def ms (l : List UInt8) : ByteArray := ⟨l.toArray⟩

@[go_sem] theorem bl_ms (l : List UInt8) : bl (ms l) = l := rfl
theorem ms_bl (s : ByteArray) : ms (bl s) = s := rfl
theorem bl_length (s : ByteArray) : (bl s).length = s.size := rfl
theorem bl_lit (a : Array UInt8) : bl ⟨a⟩ = a.toList := rfl
theorem bl_inj {s t : ByteArray} (h : bl s = bl t) : s = t := by
  have := congrArg ms h
  simpa [ms_bl] using this
theorem bl_append (s t : ByteArray) : bl (s ++ t) = bl s ++ bl t := by simp [bl]
theorem bl_mk (l : List UInt8) : bl ⟨l.toArray⟩ = l := rfl
theorem bl_extract (s : ByteArray) (a b : Nat) : bl (s.extract a b) = ((bl s).drop a).take (b - a) := by
  simp [bl, ByteArray.data_extract, List.extract_eq_take_drop]
@[go_sem] theorem bl_toList (s : ByteArray) : s.toList = bl s := ByteArray.toList_eq s
@[go_sem] theorem ms_size (l : List UInt8) : (ms l).size = l.length := rfl
theorem bl_get (s : ByteArray) (k : Nat) (h : k < s.size) : (bl s)[k]'(by rw [bl_length]; exact h) = s[k] := rfl
theorem bl_take_succ (s : ByteArray) (k : Nat) (h : k < s.size) : (bl s).take (k + 1) = (bl s).take k ++ [s[k]] := by
  rw [List.take_succ_eq_append_getElem (by rw [bl_length]; exact h), bl_get s k h]
theorem bl_take_all (s : ByteArray) (k : Nat) (h : s.size ≤ k) : (bl s).take k = bl s := List.take_of_length_le (by rw [bl_length]; exact h)

theorem run_add {P : Program} (w : World) (s t : ByteArray) (h : s.size + t.size ≤ 9223372036854775807) : (Op.stringOp .add s t).run P w = .ok (.string (ms (bl s ++ bl t))) w := by
  rw [run_string_add_sum _ _ _ h]
  congr 2

/-- a ≤ x ≤ b. -/
def inB (x a b : Int) : Bool := decide (a ≤ x) && decide (x ≤ b)
theorem inB_true {x a b : Int} : inB x a b = true ↔ a ≤ x ∧ x ≤ b := by simp [inB]
theorem inB_false {x a b : Int} : inB x a b = false ↔ ¬ (a ≤ x ∧ x ≤ b) := by rw [← inB_true]; simp

/-- A byte is among the bytes. -/
def hasB (l : List UInt8) (b : Int) : Bool := l.any fun c => (c.toNat : Int) == b
theorem hasB_snoc (l : List UInt8) (c : UInt8) (b : Int) : hasB (l ++ [c]) b = (hasB l b || ((c.toNat : Int) == b)) := by simp [hasB]
theorem hasB_true_of_take {l : List UInt8} {k : Nat} {b : Int} (h : hasB (l.take k) b = true) : hasB l b = true := by
  simp only [hasB, List.any_eq_true] at *
  obtain ⟨x, hx, e⟩ := h
  exact ⟨x, List.mem_of_mem_take hx, e⟩

/-- Bytes that may stand in a record: 32..126, no '#'. -/
def okB (c : UInt8) : Bool := inB c.toNat 32 126 && !((c.toNat : Int) == 35)
def allB (l : List UInt8) : Bool := l.all okB
theorem allB_snoc (l : List UInt8) (c : UInt8) : allB (l ++ [c]) = (allB l && okB c) := by simp [allB]
theorem allB_false_of_take {l : List UInt8} {k : Nat} (h : allB (l.take k) = false) : allB l = false := by
  rw [← List.take_append_drop k l]
  simp only [allB, List.all_append] at *
  rw [h]; rfl
def plainB (l : List UInt8) (most : Int) : Bool := allB l && decide ((l.length : Int) ≤ most)
/-- Bytes in 32..126. -/
def seenB (l : List UInt8) : Bool := l.all fun c => inB c.toNat 32 126
theorem seenB_snoc (l : List UInt8) (c : UInt8) : seenB (l ++ [c]) = (seenB l && inB c.toNat 32 126) := by simp [seenB]
theorem seenB_false_of_take {l : List UInt8} {k : Nat} (h : seenB (l.take k) = false) : seenB l = false := by
  rw [← List.take_append_drop k l]
  simp only [seenB, List.all_append] at *
  rw [h]; rfl

theorem ret_int {k : IntKind} {a b : Int} (h : a = b) : Ending.returned (.int k a) = .returned (.int k b) := by rw [h]
theorem ret_bool {a b : Bool} (h : a = b) : Ending.returned (.bool a) = .returned (.bool b) := by rw [h]

theorem bcell {W w1 : World} (hb : RowKit.Below W.heap.size W w1) : (∀ b o, b < W.heap.size → w1.cell? ⟨b, o, none⟩ = W.cell? ⟨b, o, none⟩) ∧ (∀ b o, b < W.heap.size → w1.frozen? ⟨b, o, none⟩ = W.frozen? ⟨b, o, none⟩) :=
  ⟨fun b o h => hb.cell (p := ⟨b, o, none⟩) h, fun b o h => hb.frozen (p := ⟨b, o, none⟩) h⟩
theorem bb (W : World) : RowKit.Below W.heap.size W W := RowKit.Below.refl _ _
theorem bal {W w : World} (h : RowKit.Below W.heap.size W w) (o : Obj) : RowKit.Below W.heap.size W (w.alloc o) := h.alloc h.size o
theorem bst {W w : World} (h : RowKit.Below W.heap.size W w) {p : Addr} (hp : W.heap.size ≤ p.block) (u : Value) : RowKit.Below W.heap.size W (w.setCell p u) := h.setCell hp u
theorem btr {W w w' : World} (h : RowKit.Below W.heap.size W w) (h' : RowKit.Below w.heap.size w w') : RowKit.Below W.heap.size W w' := h.trans (h'.mono h.size)
theorem bdr {W w : World} (h : RowKit.Below W.heap.size W w) : RowKit.Below W.heap.size W w.drew := h.drew
/-- What a step of a region does to the lists that it carries: one name for all the rules. -/
theorem put_rules : (∀ (l : List Oper) (i : Nat) (h : i < l.toArray.size), l.toArray[i]'h = l[i]'(by simpa using h)) ∧ (∀ (o : Oper) (l : List Oper) (h : 0 < (o :: l).length), (o :: l)[0]'h = o) ∧ (∀ (o : Oper) (l : List Oper) (n : Nat) (h : n + 1 < (o :: l).length), (o :: l)[n + 1]'h = l[n]'(Nat.lt_of_succ_lt_succ h)) ∧ (∀ (a : Act) (d : Tmp) (v : Value), a.put (some d) v = { a with tmps := a.tmps.setIfInBounds d v }) ∧ (∀ (a : Act) (v : Value), a.put none v = a) ∧ (∀ (l : List Bool) (i : Nat) (b : Bool), l.toArray.setIfInBounds i b = (l.set i b).toArray) ∧ (∀ (l : List Value) (i : Nat) (b : Value), l.toArray.setIfInBounds i b = (l.set i b).toArray) ∧
    (∀ (a b : Bool) (l : List Bool), (a :: l).set 0 b = b :: l) ∧ (∀ (a b : Value) (l : List Value), (a :: l).set 0 b = b :: l) ∧
    (∀ (a b : Bool) (l : List Bool) (n : Nat), (a :: l).set (n + 1) b = a :: l.set n b) ∧ (∀ (a b : Value) (l : List Value) (n : Nat), (a :: l).set (n + 1) b = a :: l.set n b) :=
  ⟨fun _ _ _ => rfl, fun _ _ _ => rfl, fun _ _ _ _ => rfl, fun _ _ _ => rfl, fun _ _ => rfl, fun _ _ _ => List.setIfInBounds_toArray .., fun _ _ _ => List.setIfInBounds_toArray .., fun _ _ _ => rfl, fun _ _ _ => rfl, fun _ _ _ _ => rfl, fun _ _ _ _ => rfl⟩
end Go.Proofs.YtahbepajeplcmaaDoor

/- Plain facts: books of records. No program in sight. -/
namespace Go.Proofs.YtahbepajeplcmaaDoor

/-- A record: name, system, size, extra. -/
structure Rec where
  name : List UInt8
  sys : Int
  size : Int
  extra : Int
  deriving DecidableEq

def nameC (c : UInt8) : Bool := inB c.toNat 97 122 || inB c.toNat 48 57
def nameB (l : List UInt8) : Bool := inB l.length 1 12 && l.all nameC
/-- A valid record. -/
def recB (r : Rec) : Bool := nameB r.name && inB r.sys 1 4 && inB r.size 1 9999 && inB r.extra 0 9999

theorem less_irrefl : ∀ a : List UInt8, Op.bytesLess a a = false
  | [] => rfl
  | c :: a => by
    simp only [Op.bytesLess, beq_self_eq_true, Bool.true_and, less_irrefl a, Bool.or_false, decide_eq_false_iff_not]
    rw [UInt8.lt_iff_toNat_lt]; omega
theorem less_trans : ∀ {a b c : List UInt8}, Op.bytesLess a b = true → Op.bytesLess b c = true → Op.bytesLess a c = true
  | _, [], _, h, _ => by cases ‹List UInt8› <;> simp [Op.bytesLess] at h
  | _, _ :: _, [], _, h => by simp [Op.bytesLess] at h
  | [], _ :: _, _ :: _, _, _ => rfl
  | x :: a, y :: b, z :: c, h, k => by
    simp only [Op.bytesLess, Bool.or_eq_true, decide_eq_true_eq, Bool.and_eq_true, beq_iff_eq, UInt8.lt_iff_toNat_lt] at h k ⊢
    rcases h with h | ⟨rfl, h⟩
    · rcases k with k | ⟨rfl, k⟩
      · left; omega
      · left; exact h
    · rcases k with k | ⟨rfl, k⟩
      · left; exact k
      · right; exact ⟨rfl, less_trans h k⟩
theorem less_total : ∀ {a b : List UInt8}, Op.bytesLess a b = false → a ≠ b → Op.bytesLess b a = true
  | [], [], _, h => absurd rfl h
  | [], _ :: _, h, _ => by simp [Op.bytesLess] at h
  | _ :: _, [], _, _ => rfl
  | x :: a, y :: b, h, hne => by
    simp only [Op.bytesLess, Bool.or_eq_false_iff, decide_eq_false_iff_not, Bool.and_eq_false_iff, beq_eq_false_iff_ne, UInt8.lt_iff_toNat_lt] at h
    simp only [Op.bytesLess, Bool.or_eq_true, decide_eq_true_eq, Bool.and_eq_true, beq_iff_eq, UInt8.lt_iff_toNat_lt]
    by_cases e : x = y
    · subst e
      right
      rcases h.2 with h2 | h2
      · exact absurd rfl h2
      · exact ⟨rfl, less_total h2 (fun e => hne (by rw [e]))⟩
    · left
      have : x.toNat ≠ y.toNat := fun h => e (UInt8.toNat_inj.1 h)
      omega
theorem less_asym {a b : List UInt8} (h : Op.bytesLess a b = true) : Op.bytesLess b a = false := by
  cases e : Op.bytesLess b a with
  | false => rfl
  | true => have := less_trans h e; rw [less_irrefl] at this; cases this

/-- A record is before another one. -/
def beforeB (a b : Rec) : Bool := Op.bytesLess a.name b.name || (a.name == b.name && decide (a.sys < b.sys))
theorem before_trans {a b c : Rec} (h : beforeB a b = true) (k : beforeB b c = true) : beforeB a c = true := by
  simp only [beforeB, Bool.or_eq_true, Bool.and_eq_true, beq_iff_eq, decide_eq_true_eq] at *
  rcases h with h | ⟨h1, h2⟩
  · rcases k with k | ⟨k1, k2⟩
    · exact .inl (less_trans h k)
    · left; rw [← k1]; exact h
  · rcases k with k | ⟨k1, k2⟩
    · left; rw [h1]; exact k
    · right; exact ⟨h1.trans k1, by omega⟩
/-- Place i of a book is as it must be. -/
def bkOk (xs : List Rec) (i : Nat) : Bool :=
  match xs[i]?, (if i = 0 then none else xs[i - 1]?) with
  | some r, none => recB r
  | some r, some q => recB r && beforeB q r
  | none, _ => false
def bkOkTo (xs : List Rec) (k : Nat) : Bool := (List.range k).all (bkOk xs)
theorem bkOkTo_succ (xs : List Rec) (k : Nat) : bkOkTo xs (k + 1) = (bkOkTo xs k && bkOk xs k) := by simp [bkOkTo, List.range_succ]
/-- A book. -/
def bookB (xs : List Rec) : Bool := bkOkTo xs xs.length && decide (xs.length ≤ 24)
theorem bkOkTo_le {xs : List Rec} {k : Nat} (hk : k ≤ xs.length) (h : bkOkTo xs k = false) : bkOkTo xs xs.length = false := by
  obtain ⟨d, hd⟩ : ∃ d, xs.length = k + d := ⟨xs.length - k, by omega⟩
  rw [hd]
  clear hd hk
  induction d with
  | zero => exact h
  | succ d ih => rw [← Nat.add_assoc, bkOkTo_succ, ih]; rfl
theorem bkOk_zero (xs : List Rec) (h : 0 < xs.length) : bkOk xs 0 = recB xs[0] := by
  unfold bkOk
  rw [List.getElem?_eq_getElem h, if_pos rfl]
theorem bkOk_succ (xs : List Rec) (k : Nat) (h : k + 1 < xs.length) : bkOk xs (k + 1) = (recB xs[k + 1] && beforeB (xs[k]'(by omega)) xs[k + 1]) := by
  unfold bkOk
  rw [List.getElem?_eq_getElem h, if_neg (by omega), Nat.add_sub_cancel, List.getElem?_eq_getElem (show k < xs.length by omega)]
theorem book_at {xs : List Rec} (h : bookB xs = true) (k : Nat) (hk : k < xs.length) : bkOk xs k = true := by
  unfold bookB bkOkTo at h
  rw [Bool.and_eq_true, List.all_eq_true] at h
  exact h.1 k (List.mem_range.2 hk)
theorem book_rec {xs : List Rec} (h : bookB xs = true) (k : Nat) (hk : k < xs.length) : recB xs[k] = true := by
  have := book_at h k hk
  cases k with
  | zero => rwa [bkOk_zero xs hk] at this
  | succ k => rw [bkOk_succ xs k hk, Bool.and_eq_true] at this; exact this.1
theorem book_rising {xs : List Rec} (h : bookB xs = true) : ∀ (i j : Nat) (hj : j < xs.length) (hij : i < j), beforeB (xs[i]'(by omega)) xs[j] = true
  | i, j + 1, hj, hij => by
    have h1 := book_at h (j + 1) hj
    rw [bkOk_succ xs j hj, Bool.and_eq_true] at h1
    rcases Nat.lt_or_ge i j with h2 | h2
    · exact before_trans (book_rising h i j (by omega) h2) h1.2
    · obtain rfl : i = j := by omega
      exact h1.2
end Go.Proofs.YtahbepajeplcmaaDoor

/- Plain facts: names with a smaller proof in one system than in another. No program in sight. -/
namespace Go.Proofs.YtahbepajeplcmaaDoor

theorem book_pair {xs : List Rec} (h : bookB xs = true) : xs.Pairwise (fun a b => beforeB a b = true) :=
  List.pairwise_iff_getElem.2 fun i j _ hj hij => book_rising h i j hj hij
abbrev LessN (a b : List UInt8) : Prop := Op.bytesLess a b = true
theorem lessN_asym (a b : List UInt8) (h : LessN a b) : ¬ LessN b a := fun k => by
  have := less_asym h
  rw [k] at this; cases this
theorem ascN_ext {α : Type} {R : α → α → Prop} (hR : ∀ x y, R x y → ¬ R y x) : ∀ {a b : List α}, a.Pairwise R → b.Pairwise R → (∀ x, x ∈ a ↔ x ∈ b) → a = b
  | [], [], _, _, _ => rfl
  | [], y :: b, _, _, h => by have := (h y).2 (by simp); simp at this
  | x :: a, [], _, _, h => by have := (h x).1 (by simp); simp at this
  | x :: a, y :: b, ha, hb, h => by
    rw [List.pairwise_cons] at ha hb
    have e : x = y := by
      rcases List.mem_cons.1 ((h x).1 (by simp)) with e | hx
      · exact e
      · rcases List.mem_cons.1 ((h y).2 (by simp)) with e | hy
        · exact e.symm
        · exact absurd (ha.1 y hy) (hR _ _ (hb.1 x hx))
    subst e
    have hx1 : x ∉ a := fun hx => hR _ _ (ha.1 x hx) (ha.1 x hx)
    have hx2 : x ∉ b := fun hx => hR _ _ (hb.1 x hx) (hb.1 x hx)
    rw [ascN_ext hR ha.2 hb.2 fun z => ?_]
    have := h z
    simp only [List.mem_cons] at this
    constructor
    · intro hz
      rcases this.1 (.inr hz) with e | hz2
      · exact absurd (e ▸ hz) hx1
      · exact hz2
    · intro hz
      rcases this.2 (.inr hz) with e | hz2
      · exact absurd (e ▸ hz) hx2
      · exact hz2

/-- Whether a record in one system is smaller than one of the same name in another. -/
def underB (one two : Int) (r q : Rec) : Bool := decide (r.sys = one) && decide (q.sys = two) && (r.name == q.name) && decide (r.size < q.size)
/-- The reference's list. -/
def smallS (xs : List Rec) (one two : Int) : List (List UInt8) := xs.flatMap fun r => xs.flatMap fun q => if underB one two r q then [r.name] else []
theorem mem_smallS {xs : List Rec} {one two : Int} {n : List UInt8} : n ∈ smallS xs one two ↔ ∃ r ∈ xs, ∃ q ∈ xs, underB one two r q = true ∧ r.name = n := by
  simp only [smallS, List.mem_flatMap]
  constructor
  · rintro ⟨r, hr, q, hq, h⟩
    by_cases hu : underB one two r q = true
    · rw [if_pos hu, List.mem_singleton] at h
      exact ⟨r, hr, q, hq, hu, h.symm⟩
    · rw [if_neg hu] at h; simp at h
  · rintro ⟨r, hr, q, hq, hu, rfl⟩
    exact ⟨r, hr, q, hq, by rw [if_pos hu]; simp⟩
theorem under_spec {one two : Int} {r q : Rec} : underB one two r q = true ↔ r.sys = one ∧ q.sys = two ∧ r.name = q.name ∧ r.size < q.size := by
  simp only [underB, Bool.and_eq_true, decide_eq_true_eq, beq_iff_eq, and_assoc]
theorem before_less {a b : Rec} (h : beforeB a b = true) (hs : a.sys = b.sys) : LessN a.name b.name := by
  simp only [beforeB, Bool.or_eq_true, Bool.and_eq_true, beq_iff_eq, decide_eq_true_eq] at h
  rcases h with h | ⟨_, h⟩
  · exact h
  · omega
theorem before_no {a b : Rec} (h : beforeB a b = true) (hs : a.sys = b.sys) (hn : a.name = b.name) : False := by
  have := before_less h hs
  unfold LessN at this
  rw [hn, less_irrefl] at this
  cases this
theorem smallS_asc {xs : List Rec} {one two : Int} (h : bookB xs = true) : (smallS xs one two).Pairwise LessN := by
  have hp := book_pair h
  unfold smallS
  rw [List.pairwise_flatMap]
  refine ⟨fun r _ => ?_, ?_⟩
  · rw [List.pairwise_flatMap]
    refine ⟨fun q _ => by split <;> simp, hp.imp fun {a b} hab x hx y hy => ?_⟩
    by_cases ha : underB one two r a = true
    · by_cases hb : underB one two r b = true
      · obtain ⟨_, a2, a3, _⟩ := under_spec.1 ha
        obtain ⟨_, b2, b3, _⟩ := under_spec.1 hb
        exact (before_no hab (a2.trans b2.symm) (a3.symm.trans b3)).elim
      · rw [if_neg hb] at hy; simp at hy
    · rw [if_neg ha] at hx; simp at hx
  · refine hp.imp fun {a b} hab x hx y hy => ?_
    obtain ⟨q, _, hq⟩ := List.mem_flatMap.1 hx
    obtain ⟨s, _, hs⟩ := List.mem_flatMap.1 hy
    by_cases ha : underB one two a q = true
    · by_cases hb : underB one two b s = true
      · rw [if_pos ha, List.mem_singleton] at hq
        rw [if_pos hb, List.mem_singleton] at hs
        subst hq; subst hs
        exact before_less hab ((under_spec.1 ha).1.trans (under_spec.1 hb).1.symm)
      · rw [if_neg hb] at hs; simp at hs
    · rw [if_neg ha] at hq; simp at hq

/-- The record of a name in a system. -/
def isRec (n : List UInt8) (s : Int) (r : Rec) : Bool := (r.name == n) && decide (r.sys = s)
def recOf (xs : List Rec) (n : List UInt8) (s : Int) : Option Rec := xs.find? (isRec n s)
def goesB (xs : List Rec) (one two : Int) (n : List UInt8) : Bool :=
  match recOf xs n one, recOf xs n two with
  | some a, some b => decide (b.size ≤ a.size)
  | _, _ => true
theorem recOf_iff {xs : List Rec} (h : bookB xs = true) {n : List UInt8} {s : Int} {r : Rec} : recOf xs n s = some r ↔ r ∈ xs ∧ r.name = n ∧ r.sys = s := by
  unfold recOf
  constructor
  · intro hf
    have h1 := List.find?_some hf
    simp only [isRec, Bool.and_eq_true, beq_iff_eq, decide_eq_true_eq] at h1
    exact ⟨List.mem_of_find?_eq_some hf, h1⟩
  · rintro ⟨hr, rfl, rfl⟩
    cases hf : xs.find? (isRec r.name r.sys) with
    | none =>
      have := List.find?_eq_none.1 hf r hr
      simp [isRec] at this
    | some q =>
      have h1 := List.find?_some hf
      simp only [isRec, Bool.and_eq_true, beq_iff_eq, decide_eq_true_eq] at h1
      have hq := List.mem_of_find?_eq_some hf
      obtain ⟨i, hi, rfl⟩ := List.getElem_of_mem hr
      obtain ⟨j, hj, rfl⟩ := List.getElem_of_mem hq
      rcases Nat.lt_trichotomy i j with hlt | rfl | hlt
      · exact (before_no (book_rising h i j hj hlt) h1.2.symm h1.1.symm).elim
      · rfl
      · exact (before_no (book_rising h j i hi hlt) h1.2 h1.1).elim
theorem goes_iff {xs : List Rec} (h : bookB xs = true) {one two : Int} {n : List UInt8} : goesB xs one two n = false ↔ n ∈ smallS xs one two := by
  rw [mem_smallS]
  unfold goesB
  constructor
  · intro hg
    cases h1 : recOf xs n one with
    | none => rw [h1] at hg; cases hg
    | some a =>
      cases h2 : recOf xs n two with
      | none => rw [h1, h2] at hg; cases hg
      | some b =>
        rw [h1, h2] at hg
        simp only [decide_eq_false_iff_not] at hg
        obtain ⟨a1, a2, a3⟩ := (recOf_iff h).1 h1
        obtain ⟨b1, b2, b3⟩ := (recOf_iff h).1 h2
        exact ⟨a, a1, b, b1, under_spec.2 ⟨a3, b3, a2.trans b2.symm, by omega⟩, a2⟩
  · rintro ⟨r, hr, q, hq, hu, rfl⟩
    obtain ⟨u1, u2, u3, u4⟩ := under_spec.1 hu
    rw [(recOf_iff h).2 ⟨hr, rfl, u1⟩, (recOf_iff h).2 ⟨hq, u3.symm, u2⟩]
    simp only [decide_eq_false_iff_not]
    omega
/-- Whatever rising list of the names the program leaves names out of, the same ones stay. -/
theorem small_same {xs : List Rec} (h : bookB xs = true) {one two : Int} {ns : List (List UInt8)} (h1 : ns.Pairwise LessN) (h2 : ∀ n, n ∈ ns ↔ n ∈ xs.map Rec.name) : ns.filter (fun n => !goesB xs one two n) = smallS xs one two := by
  refine ascN_ext lessN_asym (h1.filter _) (smallS_asc h) fun n => ?_
  rw [List.mem_filter, h2, Bool.not_eq_true', goes_iff h]
  constructor
  · exact fun h => h.2
  · intro hn
    refine ⟨?_, hn⟩
    obtain ⟨r, hr, q, hq, _, rfl⟩ := mem_smallS.1 hn
    exact List.mem_map.2 ⟨r, hr, rfl⟩
end Go.Proofs.YtahbepajeplcmaaDoor

/- Plain facts: decimals, checksums, sealed strings, splitting. No program in sight. -/
namespace Go.Proofs.YtahbepajeplcmaaDoor

theorem decDigits_big {u : Nat} (h : ¬ u < 10) : Lib.decDigits u = Lib.decDigits (u / 10) ++ [UInt8.ofNat (48 + u % 10)] := by rw [Lib.decDigits, dif_neg h]
theorem itoa_nat (u : Nat) : Lib.itoa u = Lib.decDigits u := by simp [Lib.itoa, Int.not_lt.2 (Int.natCast_nonneg u)]
theorem itoa_neg (u : Nat) (h : 0 < u) : Lib.itoa (-(u : Int)) = 45 :: Lib.decDigits u := by
  rw [Lib.itoa, if_pos (by omega)]; congr 2; omega
theorem digit_at : ∀ k : Nat, k < 10 → (ByteArray.mk #[48, 49, 50, 51, 52, 53, 54, 55, 56, 57]).extract k (k + 1) = ms [UInt8.ofNat (48 + k)] := by
  intro k hk
  apply bl_inj
  rw [bl_extract, bl_ms]
  match k, hk with
  | 0, _ => rfl
  | 1, _ => rfl
  | 2, _ => rfl
  | 3, _ => rfl
  | 4, _ => rfl
  | 5, _ => rfl
  | 6, _ => rfl
  | 7, _ => rfl
  | 8, _ => rfl
  | 9, _ => rfl
theorem decDigits_ne (u : Nat) : Lib.decDigits u ≠ [] := by
  by_cases h : u < 10
  · rw [Lib.decDigits, dif_pos h]; simp
  · rw [decDigits_big h]; simp
theorem decDigits_len : ∀ (k u : Nat), u < 10 ^ (k + 1) → (Lib.decDigits u).length ≤ k + 1
  | 0, u, h => by rw [Lib.decDigits, dif_pos (by simpa using h)]; simp
  | k + 1, u, h => by
    by_cases h1 : u < 10
    · rw [Lib.decDigits, dif_pos h1]; simp
    · rw [decDigits_big h1, List.length_append]
      have := decDigits_len k (u / 10) (by rw [Nat.pow_succ] at h; omega)
      simp; omega
theorem decDigits_digit : ∀ (n u : Nat), u ≤ n → ∀ c ∈ Lib.decDigits u, 48 ≤ c.toNat ∧ c.toNat ≤ 57
  | n, u, hn => by
    intro c hc
    by_cases h1 : u < 10
    · rw [Lib.decDigits, dif_pos h1] at hc
      simp at hc; subst hc
      simp; omega
    · rw [decDigits_big h1] at hc
      rcases List.mem_append.1 hc with hc | hc
      · cases n with
        | zero => omega
        | succ n => exact decDigits_digit n (u / 10) (by omega) c hc
      · simp at hc; subst hc
        simp; omega
termination_by n => n

/-- The checksum. -/
def sumB (l : List UInt8) : Int := l.foldl (fun h c => (41 * h + c.toNat + 1) % 999979) 7
theorem sumB_snoc (l : List UInt8) (c : UInt8) : sumB (l ++ [c]) = (41 * sumB l + c.toNat + 1) % 999979 := by simp [sumB]
theorem sumB_nil : sumB [] = 7 := rfl
theorem sumB_range (l : List UInt8) : 0 ≤ sumB l ∧ sumB l < 999979 := by
  rcases List.eq_nil_or_concat l with rfl | ⟨l', c, rfl⟩
  · exact ⟨by decide, by decide⟩
  · rw [List.concat_eq_append, sumB_snoc]; omega
/-- The sealed string. -/
def sealB (l : List UInt8) : List UInt8 := l ++ 35 :: Lib.itoa (sumB l)
theorem itoa_len {n : Int} (h0 : 0 ≤ n) (h : n < 1000000) : (Lib.itoa n).length ≤ 6 := by
  obtain ⟨u, rfl⟩ := Int.eq_ofNat_of_zero_le h0
  rw [itoa_nat]
  exact decDigits_len 5 u (by omega)
theorem sealB_length (l : List UInt8) : (sealB l).length ≤ l.length + 7 := by
  have := sumB_range l
  have := itoa_len this.1 (by omega)
  simp [sealB]; omega
end Go.Proofs.YtahbepajeplcmaaDoor

/- Plain facts: cutting and splitting at a byte; sealed strings read back. No program in sight. -/
namespace Go.Proofs.YtahbepajeplcmaaDoor

def eqB (c : UInt8) (b : Int) : Bool := (c.toNat : Int) == b
theorem eqB_of (c b : UInt8) : eqB c b.toNat = (c == b) := by
  unfold eqB
  rw [Bool.eq_iff_iff]
  simp only [beq_iff_eq]
  constructor
  · intro h; exact UInt8.toNat_inj.1 (by omega)
  · rintro rfl; rfl
theorem hasB_cons (c : UInt8) (l : List UInt8) (b : Int) : hasB (c :: l) b = (eqB c b || hasB l b) := rfl
theorem hasB_append (l m : List UInt8) (b : Int) : hasB (l ++ m) b = (hasB l b || hasB m b) := by simp [hasB]

/-- A string cut at the first byte b. -/
def cutP (b : Int) : List UInt8 → List UInt8 × List UInt8 × Bool
  | [] => ([], [], false)
  | c :: l => if eqB c b then ([], l, true) else (c :: (cutP b l).1, (cutP b l).2.1, (cutP b l).2.2)
theorem cutP_none {b : Int} : ∀ {l : List UInt8}, hasB l b = false → cutP b l = (l, [], false)
  | [], _ => rfl
  | c :: l, h => by
    rw [hasB_cons] at h
    have h1 : eqB c b = false := by cases e : eqB c b <;> simp_all
    have h2 : hasB l b = false := by cases e : hasB l b <;> simp_all
    rw [cutP, h1, cutP_none h2]; rfl
theorem cutP_some {b : Int} : ∀ {l : List UInt8} {c : UInt8} {m : List UInt8}, hasB l b = false → eqB c b = true → cutP b (l ++ c :: m) = (l, m, true)
  | [], c, m, _, h => by rw [List.nil_append, cutP, h]; rfl
  | x :: l, c, m, h, h' => by
    rw [hasB_cons] at h
    have h1 : eqB x b = false := by cases e : eqB x b <;> simp_all
    have h2 : hasB l b = false := by cases e : hasB l b <;> simp_all
    rw [List.cons_append, cutP, h1, cutP_some h2 h']; rfl
/-- Every string has the byte not at all, or a first time. -/
theorem cut_cases (b : Int) : ∀ l : List UInt8, hasB l b = false ∨ ∃ x c y, l = x ++ c :: y ∧ hasB x b = false ∧ eqB c b = true
  | [] => .inl rfl
  | c :: l => by
    cases e : eqB c b with
    | true => exact .inr ⟨[], c, l, rfl, rfl, e⟩
    | false =>
      rcases cut_cases b l with h | ⟨x, d, y, rfl, h1, h2⟩
      · left; rw [hasB_cons, e, h]; rfl
      · exact .inr ⟨c :: x, d, y, rfl, by rw [hasB_cons, e, h1]; rfl, h2⟩
theorem index_none {b : UInt8} {l : List UInt8} (h : hasB l b.toNat = false) : Lib.indexByte l b = -1 := by
  induction l with
  | nil => rfl
  | cons c l ih =>
    rw [hasB_cons, eqB_of] at h
    have h1 : (c == b) = false := by cases e : (c == b) <;> simp_all
    have h2 : hasB l b.toNat = false := by cases e : hasB l b.toNat <;> simp_all
    rw [Lib.indexByte, if_neg (by rw [h1]; simp), ih h2, if_pos (by decide)]
theorem index_some {b : UInt8} {l m : List UInt8} (h : hasB l b.toNat = false) : Lib.indexByte (l ++ b :: m) b = l.length := by
  induction l with
  | nil => simp [Lib.indexByte]
  | cons c l ih =>
    rw [hasB_cons, eqB_of] at h
    have h1 : (c == b) = false := by cases e : (c == b) <;> simp_all
    have h2 : hasB l b.toNat = false := by cases e : hasB l b.toNat <;> simp_all
    rw [List.cons_append, Lib.indexByte, if_neg (by rw [h1]; simp), ih h2, if_neg (by rw [beq_iff_eq]; omega)]
    simp
theorem lib_cut (b : UInt8) (l : List UInt8) : Lib.cut l [b] = cutP b.toNat l := by
  unfold Lib.cut
  rw [Lib.index_one]
  rcases cut_cases b.toNat l with h | ⟨x, c, y, rfl, h1, h2⟩
  · rw [index_none h, if_neg (by decide), cutP_none h]
  · have e : c = b := by have := eqB_of c b; rw [h2] at this; simpa using this.symm
    subst e
    rw [index_some h1, if_pos (by omega), cutP_some h1 h2]
    simp
theorem lib_has (b : UInt8) (l : List UInt8) : decide (0 ≤ Lib.indexByte l b) = hasB l b.toNat := by
  rcases cut_cases b.toNat l with h | ⟨x, c, y, rfl, h1, h2⟩
  · rw [index_none h, h]; decide
  · have e : c = b := by have := eqB_of c b; rw [h2] at this; simpa using this.symm
    subst e
    rw [index_some h1, hasB_append, hasB_cons, h2]
    simp

/-- A string split at every byte b. -/
def splitP (b : Int) : List UInt8 → List (List UInt8)
  | [] => [[]]
  | c :: l => if eqB c b then [] :: splitP b l else match splitP b l with
    | p :: ps => (c :: p) :: ps
    | [] => [[c]]
theorem splitP_none {b : Int} : ∀ {l : List UInt8}, hasB l b = false → splitP b l = [l]
  | [], _ => rfl
  | c :: l, h => by
    rw [hasB_cons] at h
    have h1 : eqB c b = false := by cases e : eqB c b <;> simp_all
    have h2 : hasB l b = false := by cases e : hasB l b <;> simp_all
    rw [splitP, h1, splitP_none h2]; rfl
theorem splitP_some {b : Int} : ∀ {l : List UInt8} {c : UInt8} {m : List UInt8}, hasB l b = false → eqB c b = true → splitP b (l ++ c :: m) = l :: splitP b m
  | [], c, m, _, h => by rw [List.nil_append, splitP, h]; rfl
  | x :: l, c, m, h, h' => by
    rw [hasB_cons] at h
    have h1 : eqB x b = false := by cases e : eqB x b <;> simp_all
    have h2 : hasB l b = false := by cases e : hasB l b <;> simp_all
    rw [List.cons_append, splitP, h1, splitP_some h2 h']; rfl
theorem splitP_ne (b : Int) : ∀ l : List UInt8, splitP b l ≠ []
  | [] => by simp [splitP]
  | c :: l => by
    rw [splitP]
    split
    · simp
    · split <;> simp
theorem splitP_head (b : Int) (l : List UInt8) : ∃ ps, splitP b l = (cutP b l).1 :: ps ∧ (ps ≠ [] ↔ hasB l b = true) := by
  rcases cut_cases b l with h | ⟨x, c, y, rfl, h1, h2⟩
  · exact ⟨[], by rw [splitP_none h, cutP_none h], by rw [h]; simp⟩
  · refine ⟨splitP b y, by rw [splitP_some h1 h2, cutP_some h1 h2], ?_⟩
    rw [hasB_append, hasB_cons, h2]
    simp [splitP_ne]
theorem splitP_len (b : Int) : ∀ l : List UInt8, (splitP b l).length ≤ l.length + 1
  | [] => by simp [splitP]
  | c :: l => by
    have := splitP_len b l
    rw [splitP]
    split
    · simp; omega
    · have hn := splitP_ne b l
      split
      · rename_i p ps e; rw [e] at this; simp at *; omega
      · simp

/-- What the reference calls a good record. -/
def goodB (c r : List UInt8) : Bool := !c.isEmpty && plainB c 160 && !hasB c 64 && plainB r 200
/-- The line of a record. -/
def lineB (k : Int) (c r : List UInt8) : List UInt8 := sealB (Lib.itoa k ++ 32 :: (c ++ 64 :: r)) ++ [10]
/-- What 'EncodeRecord' gives. -/
def encB (k : Int) (c r : List UInt8) : List UInt8 × Bool := if inB k 0 59 && goodB c r then (lineB k c r, true) else ([], false)
/-- What 'AppendChecksum' gives. -/
def appB (l : List UInt8) : List UInt8 × Bool := if decide ((l.length : Int) ≤ 4000) && !hasB l 35 && decide (((sealB l).length : Int) ≤ 4000) then (sealB l, true) else ([], false)
theorem allB_has {l : List UInt8} (h : allB l = true) : hasB l 35 = false := by
  induction l with
  | nil => rfl
  | cons c l ih =>
    simp only [allB, List.all_cons, Bool.and_eq_true] at h
    rw [hasB_cons, ih h.2]
    have := h.1
    simp only [okB, Bool.and_eq_true, Bool.not_eq_true'] at this
    show (((c.toNat : Int) == 35) || false) = false
    rw [this.2]; rfl
theorem allB_append {l m : List UInt8} : allB (l ++ m) = (allB l && allB m) := by simp [allB]
theorem allB_nl {l : List UInt8} (h : allB l = true) : hasB l 10 = false := by
  induction l with
  | nil => rfl
  | cons c l ih =>
    simp only [allB, List.all_cons, Bool.and_eq_true] at h
    rw [hasB_cons, ih h.2]
    have := h.1
    simp only [okB, Bool.and_eq_true] at this
    have := inB_true.1 this.1
    unfold eqB
    simp; omega
theorem digits_all (n u : Nat) (h : u ≤ n) : allB (Lib.decDigits u) = true := by
  simp only [allB, List.all_eq_true]
  intro c hc
  have := decDigits_digit n u h c hc
  simp only [okB, Bool.and_eq_true, inB_true, Bool.not_eq_true']
  refine ⟨by omega, ?_⟩
  simp; omega
theorem itoa_all {k : Int} (h : 0 ≤ k) : allB (Lib.itoa k) = true := by
  rw [Lib.itoa, if_neg (by omega)]; exact digits_all _ _ (Nat.le_refl _)
theorem goodB_facts {c r : List UInt8} (h : goodB c r = true) : c ≠ [] ∧ allB c = true ∧ c.length ≤ 160 ∧ hasB c 64 = false ∧ allB r = true ∧ r.length ≤ 200 := by
  simp only [goodB, plainB, Bool.and_eq_true, Bool.not_eq_true', decide_eq_true_eq] at h
  obtain ⟨⟨⟨h1, h2, h3⟩, h4⟩, h5, h6⟩ := h
  exact ⟨by rintro rfl; simp at h1, h2, by omega, h4, h5, by omega⟩
theorem appB_good {k : Int} {c r : List UInt8} (h0 : 0 ≤ k) (h1 : k ≤ 59) (h : goodB c r = true) :
    appB (Lib.itoa k ++ 32 :: (c ++ 64 :: r)) = (sealB (Lib.itoa k ++ 32 :: (c ++ 64 :: r)), true) := by
  obtain ⟨_, g1, g2, _, g4, g5⟩ := goodB_facts h
  have hk := itoa_len h0 (by omega)
  have hn : (Lib.itoa k ++ 32 :: (c ++ 64 :: r)).length ≤ 368 := by simp; omega
  have hs := sealB_length (Lib.itoa k ++ 32 :: (c ++ 64 :: r))
  have hh : hasB (Lib.itoa k ++ 32 :: (c ++ 64 :: r)) 35 = false := by
    rw [hasB_append, hasB_cons, hasB_append, hasB_cons, allB_has (itoa_all h0), allB_has g1, allB_has g4]; rfl
  unfold appB
  rw [hh, decide_eq_true (by omega : (((Lib.itoa k ++ 32 :: (c ++ 64 :: r)).length : Nat) : Int) ≤ 4000), decide_eq_true (by omega : (((sealB (Lib.itoa k ++ 32 :: (c ++ 64 :: r))).length : Nat) : Int) ≤ 4000)]
  rfl

/-- What 'VerifyChecksum' gives. -/
def verB (l : List UInt8) : List UInt8 × Bool := if (appB (cutP 35 l).1).2 && (appB (cutP 35 l).1).1 == l then ((cutP 35 l).1, true) else ([], false)
end Go.Proofs.YtahbepajeplcmaaDoor

/- Plain facts: the text of a book. No program in sight. -/
namespace Go.Proofs.YtahbepajeplcmaaDoor

/-- The letter of a system. -/
def letB (s : Int) : List UInt8 := [if s = 1 then 114 else if s = 2 then 116 else if s = 3 then 108 else 112]
/-- The line of a record. -/
def recT (r : Rec) : List UInt8 := r.name ++ [32] ++ letB r.sys ++ [32] ++ Lib.itoa r.size ++ [32] ++ Lib.itoa r.extra ++ [10]
def textB (xs : List Rec) : List UInt8 := xs.flatMap recT
theorem letter {s : Int} (h1 : 1 ≤ s) (h4 : s ≤ 4) : (ByteArray.mk #[114, 116, 108, 112]).extract (s - 1).toNat s.toNat = ms (letB s) := by
  obtain rfl | rfl | rfl | rfl : s = 1 ∨ s = 2 ∨ s = 3 ∨ s = 4 := by omega
  all_goals rfl
theorem textB_succ {xs : List Rec} {k : Nat} (hk : k < xs.length) : textB (xs.take (k + 1)) = textB (xs.take k) ++ recT xs[k] := by
  unfold textB
  rw [List.take_succ_eq_append_getElem hk, List.flatMap_append]; simp
theorem inB_iff {x a b : Int} : inB x a b = true ↔ a ≤ x ∧ x ≤ b := by simp [inB]
theorem rec_parts {r : Rec} (h : recB r = true) : (1 ≤ r.name.length ∧ r.name.length ≤ 12) ∧ r.name.all nameC = true ∧ (1 ≤ r.sys ∧ r.sys ≤ 4) ∧ (1 ≤ r.size ∧ r.size ≤ 9999) ∧ (0 ≤ r.extra ∧ r.extra ≤ 9999) := by
  simp only [recB, nameB, Bool.and_eq_true, inB_iff] at h
  obtain ⟨⟨⟨⟨⟨a, b⟩, c⟩, d⟩, e⟩, f⟩ := h
  exact ⟨⟨by omega, by omega⟩, c, d, e, f⟩
theorem itoa_four {n : Int} (h0 : 0 ≤ n) (h1 : n ≤ 9999) : (Lib.itoa n).length ≤ 5 := by
  rw [Lib.itoa, if_neg (by omega)]; exact decDigits_len 4 _ (by omega)
theorem recT_len {r : Rec} (h : recB r = true) : (recT r).length ≤ 40 := by
  obtain ⟨h1, _, _, h3, h4⟩ := rec_parts h
  have e1 := itoa_four (n := r.size) (by omega) (by omega)
  have e2 := itoa_four h4.1 h4.2
  simp [recT, letB]; omega
theorem textB_len {xs : List Rec} (h : ∀ r ∈ xs, recB r = true) : (textB xs).length ≤ 40 * xs.length := by
  induction xs with
  | nil => simp [textB]
  | cons r xs ih =>
    have h1 := recT_len (h r (by simp))
    have h2 := ih fun r hr => h r (by simp [hr])
    unfold textB at h2 ⊢
    simp only [List.flatMap_cons, List.length_append, List.length_cons]; omega
theorem book_all {xs : List Rec} (h : bookB xs = true) : ∀ r ∈ xs, recB r = true := by
  intro r hr
  obtain ⟨i, hi, rfl⟩ := List.getElem_of_mem hr
  exact book_rec h i hi
theorem book_le {xs : List Rec} (h : bookB xs = true) : xs.length ≤ 24 := by
  unfold bookB at h
  rw [Bool.and_eq_true, decide_eq_true_eq] at h
  exact h.2
theorem take_len {xs : List Rec} (h : bookB xs = true) {k : Nat} (hk : k ≤ xs.length) : (textB (xs.take k)).length ≤ 960 := by
  have h1 := textB_len (xs := xs.take k) fun r hr => book_all h r (List.mem_of_mem_take hr)
  have h2 := book_le h
  rw [List.length_take] at h1
  omega
end Go.Proofs.YtahbepajeplcmaaDoor

/- Plain facts: numbers read back from their text; a changed byte of a sealed string. No program in sight. -/
namespace Go.Proofs.YtahbepajeplcmaaDoor

def isDig (c : UInt8) : Bool := decide (48 ≤ c.toNat) && decide (c.toNat ≤ 57)
theorem isDig_true {c : UInt8} : isDig c = true ↔ 48 ≤ c.toNat ∧ c.toNat ≤ 57 := by simp [isDig]
/-- What digits spell. -/
def valD (l : List UInt8) : Nat := l.foldl (fun a c => a * 10 + (c.toNat - 48)) 0
theorem valD_snoc (l : List UInt8) (c : UInt8) : valD (l ++ [c]) = valD l * 10 + (c.toNat - 48) := by simp [valD]
theorem valD_lt : ∀ (n : Nat) (l : List UInt8), l.length = n → l.all isDig = true → valD l < 10 ^ n
  | 0, l, h, _ => by
    obtain rfl := List.length_eq_zero_iff.1 h
    decide
  | n + 1, l, h, hd => by
    rcases List.eq_nil_or_concat l with rfl | ⟨l', c, rfl⟩
    · simp at h
    · rw [List.concat_eq_append] at h hd ⊢
      rw [List.all_append, Bool.and_eq_true] at hd
      have h1 := valD_lt n l' (by simpa using h) hd.1
      have h2 : isDig c = true := by simpa using hd.2
      rw [isDig_true] at h2
      rw [valD_snoc, Nat.pow_succ]
      omega
theorem parse_digits : ∀ (l : List UInt8) (acc : Nat), l.all isDig = true → (acc + 1) * 10 ^ l.length ≤ 100000000000000000 → Lib.parseUint10 acc l = .ok (l.foldl (fun a c => a * 10 + (c.toNat - 48)) acc)
  | [], _, _, _ => rfl
  | c :: r, acc, hd, hb => by
    rw [List.all_cons, Bool.and_eq_true] at hd
    have h1 := isDig_true.1 hd.1
    have h2 : (acc * 10 + (c.toNat - 48) + 1) * 10 ^ r.length ≤ 100000000000000000 := by
      refine Nat.le_trans (Nat.mul_le_mul_right _ (show _ ≤ (acc + 1) * 10 by omega)) ?_
      rw [List.length_cons, Nat.pow_succ] at hb
      rw [Nat.mul_assoc, Nat.mul_comm 10]
      exact hb
    have h3 : acc + 1 ≤ 100000000000000000 := Nat.le_trans (Nat.le_mul_of_pos_right _ (Nat.pow_pos (by decide))) hb
    have h4 : acc * 10 + (c.toNat - 48) + 1 ≤ 100000000000000000 := Nat.le_trans (Nat.le_mul_of_pos_right _ (Nat.pow_pos (by decide))) h2
    rw [Lib.parseUint10, if_pos h1, if_neg (by omega), if_neg (by omega), parse_digits r _ hd.2 h2]
    rfl
theorem decDigits_all (u : Nat) : (Lib.decDigits u).all isDig = true := by
  rw [List.all_eq_true]
  intro c hc
  exact isDig_true.2 (decDigits_digit u u (Nat.le_refl _) c hc)
theorem valD_dec : ∀ (n u : Nat), u ≤ n → valD (Lib.decDigits u) = u
  | n, u, hn => by
    by_cases h : u < 10
    · rw [Lib.decDigits, dif_pos h]
      simp [valD]; omega
    · rw [decDigits_big h, valD_snoc]
      cases n with
      | zero => omega
      | succ n =>
        rw [valD_dec n (u / 10) (by omega)]
        simp; omega
termination_by n => n
theorem dec_len6 {u : Nat} (h : u ≤ 999999) : 1 ≤ (Lib.decDigits u).length ∧ (Lib.decDigits u).length ≤ 6 := by
  have h1 := decDigits_len 5 u (by omega)
  have h2 := List.length_pos_iff.2 (decDigits_ne u)
  omega
theorem dec_head {u : Nat} {c : UInt8} {r : List UInt8} (h : Lib.decDigits u = c :: r) : 48 ≤ c.toNat ∧ c.toNat ≤ 57 := decDigits_digit u u (Nat.le_refl _) c (by rw [h]; exact List.mem_cons_self)
theorem parseMag_dec {u : Nat} (h : u ≤ 999999) : Lib.parseMag (Lib.decDigits u) = .ok u := by
  have hl := dec_len6 h
  unfold Lib.parseMag
  rw [if_neg (decDigits_ne u), parse_digits _ _ (decDigits_all u) ?_]
  · exact congrArg _ (valD_dec u u (Nat.le_refl _))
  · have : 10 ^ (Lib.decDigits u).length ≤ 10 ^ 6 := Nat.pow_le_pow_right (by decide) hl.2
    omega
/-- The text of a number is read back. -/
theorem atoi_itoa {v : Int} (h0 : -999999 ≤ v) (h1 : v ≤ 999999) : Lib.atoiAll (Lib.itoa v) = .ok v := by
  rcases Int.lt_or_le v 0 with h | h
  · obtain ⟨u, rfl⟩ : ∃ u : Nat, v = -(u : Int) := ⟨v.natAbs, by omega⟩
    rw [itoa_neg u (by omega)]
    unfold Lib.atoiAll
    simp [parseMag_dec (show u ≤ 999999 by omega)]
    omega
  · obtain ⟨u, rfl⟩ := Int.eq_ofNat_of_zero_le h
    rw [itoa_nat]
    obtain ⟨c, r, hc⟩ := List.exists_cons_of_ne_nil (decDigits_ne u)
    have hh := dec_head hc
    have hm := parseMag_dec (show u ≤ 999999 by omega)
    rw [hc] at hm ⊢
    unfold Lib.atoiAll
    simp only
    rw [if_neg (by omega), hm]
    simp only
    rw [if_neg (by omega), if_neg (by omega), if_neg (by omega)]

/-- The number that a text is the text of. -/
def numB (l : List UInt8) : Int × Bool :=
  match Lib.atoiAll l with
  | .ok v => if inB v (-999999) 999999 && Lib.itoa v == l then (v, true) else (0, false)
  | _ => (0, false)
theorem numB_itoa {v : Int} (h0 : -999999 ≤ v) (h1 : v ≤ 999999) : numB (Lib.itoa v) = (v, true) := by
  unfold numB
  rw [atoi_itoa h0 h1]
  simp only
  rw [if_pos (by simp [inB_true, h0, h1])]
theorem numB_not {l : List UInt8} (h : ∀ v : Int, -999999 ≤ v → v ≤ 999999 → Lib.itoa v ≠ l) : numB l = (0, false) := by
  unfold numB
  split
  · rename_i v _
    rw [if_neg]
    intro e
    simp only [Bool.and_eq_true, inB_true, beq_iff_eq] at e
    exact h v e.1.1 e.1.2 e.2
  · rfl
theorem numB_ok {l : List UInt8} {v : Int} (h : Lib.atoiAll l = .ok v) : numB l = if inB v (-999999) 999999 && Lib.itoa v == l then (v, true) else (0, false) := by
  unfold numB; rw [h]
theorem numB_no {l : List UInt8} (h : ∀ v, Lib.atoiAll l ≠ .ok v) : numB l = (0, false) := by
  unfold numB
  split
  · rename_i v e; exact absurd e (h v)
  · rfl
/-- Text behind a sign, and the sign. -/
def negB (l : List UInt8) : Bool := decide (1 < l.length) && (l.head?.map (·.toNat) == some 45)
def magB (l : List UInt8) : List UInt8 := if negB l then l.tail else l
def sgnV (l : List UInt8) : Int := if negB l then -(valD (magB l) : Int) else valD (magB l)
/-- The reference's reading: digits, and the text of their number is the text. -/
theorem numB_read (l : List UInt8) : numB l = if inB (magB l).length 1 6 && (magB l).all isDig && Lib.itoa (sgnV l) == l then (sgnV l, true) else (0, false) := by
  by_cases hc : (inB (magB l).length 1 6 && (magB l).all isDig && Lib.itoa (sgnV l) == l) = true
  · rw [if_pos hc]
    simp only [Bool.and_eq_true, inB_true, beq_iff_eq] at hc
    obtain ⟨⟨⟨h1, h2⟩, h3⟩, h4⟩ := hc
    have hv := valD_lt _ (magB l) rfl h3
    have hp : 10 ^ (magB l).length ≤ 10 ^ 6 := Nat.pow_le_pow_right (by decide) (by omega)
    have hb : -999999 ≤ sgnV l ∧ sgnV l ≤ 999999 := by unfold sgnV; split <;> omega
    have := numB_itoa hb.1 hb.2
    rw [h4] at this
    exact this
  · rw [if_neg hc]
    refine numB_not fun v h0 h1 e => hc ?_
    subst e
    rcases Int.lt_or_le v 0 with h | h
    · obtain ⟨u, rfl⟩ : ∃ u : Nat, v = -(u : Int) := ⟨v.natAbs, by omega⟩
      have hl := dec_len6 (show u ≤ 999999 by omega)
      have hI := itoa_neg u (by omega)
      have hn : negB (Lib.itoa (-(u : Int))) = true := by rw [hI]; simp [negB]; omega
      have hm : magB (Lib.itoa (-(u : Int))) = Lib.decDigits u := by unfold magB; rw [hn, hI]; rfl
      have hs : sgnV (Lib.itoa (-(u : Int))) = -(u : Int) := by unfold sgnV; rw [hn, hm, valD_dec u u (Nat.le_refl _)]; rfl
      rw [hs, hm]
      simp only [Bool.and_eq_true, inB_true, beq_self_eq_true, and_true]
      exact ⟨by omega, decDigits_all u⟩
    · obtain ⟨u, rfl⟩ := Int.eq_ofNat_of_zero_le h
      have hl := dec_len6 (show u ≤ 999999 by omega)
      have hI := itoa_nat u
      obtain ⟨c, r, hcr⟩ := List.exists_cons_of_ne_nil (decDigits_ne u)
      have hh := dec_head hcr
      have hn : negB (Lib.itoa (u : Int)) = false := by
        rw [hI, hcr]
        simp only [negB, List.head?_cons, Option.map_some, Bool.and_eq_false_iff, beq_eq_false_iff_ne, ne_eq, Option.some.injEq]
        right; omega
      have hm : magB (Lib.itoa (u : Int)) = Lib.decDigits u := by unfold magB; rw [hn, hI]; rfl
      have hs : sgnV (Lib.itoa (u : Int)) = (u : Int) := by unfold sgnV; rw [hn, hm, valD_dec u u (Nat.le_refl _)]; rfl
      rw [hs, hm]
      simp only [Bool.and_eq_true, inB_true, beq_self_eq_true, and_true]
      exact ⟨by omega, decDigits_all u⟩

/-- One changed byte changes the checksum. -/
theorem sum_step_inj {a b : Int} {c : UInt8} (ha : 0 ≤ a ∧ a < 999979) (hb : 0 ≤ b ∧ b < 999979) (h : (41 * a + c.toNat + 1) % 999979 = (41 * b + c.toNat + 1) % 999979) : a = b := by omega
theorem sum_tail_inj : ∀ (r x y : List UInt8), sumB (x ++ r) = sumB (y ++ r) → sumB x = sumB y
  | [], x, y, h => by simpa using h
  | c :: r, x, y, h => by
    have h1 : sumB ((x ++ [c]) ++ r) = sumB ((y ++ [c]) ++ r) := by simpa using h
    have h2 := sum_tail_inj r _ _ h1
    rw [sumB_snoc, sumB_snoc] at h2
    exact sum_step_inj (sumB_range x) (sumB_range y) h2
theorem sum_change (x r : List UInt8) {c d : UInt8} (h : c ≠ d) : sumB (x ++ c :: r) ≠ sumB (x ++ d :: r) := by
  intro e
  have h1 : sumB ((x ++ [c]) ++ r) = sumB ((x ++ [d]) ++ r) := by simpa using e
  have h2 := sum_tail_inj r _ _ h1
  rw [sumB_snoc, sumB_snoc] at h2
  have hc := c.toNat_lt
  have hd := d.toNat_lt
  exact h (UInt8.toNat_inj.1 (by omega))
theorem itoa_inj {a b : Int} (ha : 0 ≤ a ∧ a < 999979) (hb : 0 ≤ b ∧ b < 999979) (h : Lib.itoa a = Lib.itoa b) : a = b := by
  have h1 := atoi_itoa (show -999999 ≤ a by omega) (show a ≤ 999999 by omega)
  rw [h, atoi_itoa (by omega) (by omega)] at h1
  injection h1 with h1
  exact h1.symm
theorem appB_no {l m : List UInt8} (h : sealB l ≠ m) : ((appB l).2 && (appB l).1 == m) = false := by
  unfold appB
  split
  · simpa using h
  · rfl
theorem appB_has {l : List UInt8} (h : (appB l).2 = true) : (appB l).1 = sealB l ∧ hasB l 35 = false := by
  unfold appB at *
  split at h
  · rename_i hc
    simp only [Bool.and_eq_true, Bool.not_eq_true'] at hc
    rw [if_pos (by simp only [Bool.and_eq_true, Bool.not_eq_true']; exact hc)]
    exact ⟨rfl, hc.1.2⟩
  · cases h
theorem digits_35 (n : Int) (h : 0 ≤ n) : hasB (Lib.itoa n) 35 = false := allB_has (itoa_all h)
theorem cut_seal {x d : List UInt8} (h : hasB x 35 = false) : cutP 35 (x ++ 35 :: d) = (x, d, true) := cutP_some h (by decide)
/-- A sealed string is accepted. -/
theorem ver_seal {x : List UInt8} (h : (appB x).2 = true) : verB (sealB x) = (x, true) := by
  obtain ⟨h1, h2⟩ := appB_has h
  unfold verB sealB
  rw [cut_seal h2]
  simp only
  rw [h, h1]
  simp [sealB]
/-- A sealed string with one byte changed is not. -/
theorem ver_change {x : List UInt8} (h : hasB x 35 = false) {k : Nat} (hk : k < (sealB x).length) {c : UInt8} (hc : c ≠ (sealB x)[k]) : (verB ((sealB x).set k c)).2 = false := by
  have hs := sumB_range x
  have hdg := digits_35 (sumB x) hs.1
  suffices hm : sealB (cutP 35 ((sealB x).set k c)).1 ≠ (sealB x).set k c by
    unfold verB
    rw [appB_no hm]; rfl
  unfold sealB at hk hc ⊢
  rcases Nat.lt_trichotomy k x.length with h1 | h1 | h1
  · -- a byte of the text
    have e1 : (x ++ 35 :: Lib.itoa (sumB x)).set k c = x.take k ++ c :: x.drop (k + 1) ++ 35 :: Lib.itoa (sumB x) := by
      rw [List.set_append_left _ _ h1, List.set_eq_take_append_cons_drop, if_pos h1]
    have e2 : x = x.take k ++ x[k] :: x.drop (k + 1) := by rw [List.getElem_cons_drop]; exact (List.take_append_drop k x).symm
    rw [List.getElem_append_left h1] at hc
    have hh := h
    rw [e2, hasB_append, hasB_cons, Bool.or_eq_false_iff, Bool.or_eq_false_iff] at hh
    obtain ⟨g1, _, g3⟩ := hh
    rw [e1]
    cases hq : eqB c 35
    · rw [cut_seal (by rw [hasB_append, hasB_cons, g1, hq, g3]; rfl)]
      intro e
      have e3 := List.append_cancel_left e
      simp only [List.cons.injEq, true_and] at e3
      have e4 := itoa_inj (sumB_range _) hs e3
      exact sum_change (x.take k) (x.drop (k + 1)) hc (e4.trans (congrArg sumB e2))
    · rw [List.append_assoc, List.cons_append, cutP_some g1 hq]
      intro e
      have e3 := List.append_cancel_left e
      simp only [List.cons.injEq] at e3
      have e4 := congrArg (fun l => hasB l 35) e3.2
      rw [digits_35 _ (sumB_range _).1, hasB_append, hasB_cons] at e4
      simp [eqB] at e4
  · -- the sign itself
    subst h1
    have e1 : (x ++ 35 :: Lib.itoa (sumB x)).set x.length c = x ++ c :: Lib.itoa (sumB x) := by
      rw [List.set_append_right _ _ (Nat.le_refl _), Nat.sub_self]; rfl
    rw [List.getElem_append_right (Nat.le_refl _)] at hc
    simp only [Nat.sub_self, List.getElem_cons_zero] at hc
    have hq : eqB c 35 = false := by
      cases e : eqB c 35 with
      | false => rfl
      | true => exact absurd (eqB_of c 35 ▸ e : (c == 35) = true) (by simpa using hc)
    rw [e1, cutP_none (by rw [hasB_append, hasB_cons, h, hq, hdg]; rfl)]
    intro e
    have := congrArg List.length e
    simp only [List.length_append, List.length_cons] at this
    omega
  · -- a digit
    have e1 : (x ++ 35 :: Lib.itoa (sumB x)).set k c = x ++ 35 :: (Lib.itoa (sumB x)).set (k - x.length - 1) c := by
      obtain ⟨j, rfl⟩ : ∃ j, k = x.length + (j + 1) := ⟨k - x.length - 1, by omega⟩
      rw [List.set_append_right _ _ (by omega), Nat.add_sub_cancel_left, List.set_cons_succ]
      simp
    rw [e1, cut_seal h]
    intro e
    have e3 := List.append_cancel_left e
    simp only [List.cons.injEq, true_and] at e3
    obtain ⟨j, rfl⟩ : ∃ j, k = x.length + (j + 1) := ⟨k - x.length - 1, by omega⟩
    rw [List.getElem_append_right (by omega)] at hc
    simp only [Nat.add_sub_cancel_left, List.getElem_cons_succ] at hc
    rw [show x.length + (j + 1) - x.length - 1 = j by omega] at e3
    have hj : j < (Lib.itoa (sumB x)).length := by simp at hk; omega
    have e4 : (Lib.itoa (sumB x))[j] = ((Lib.itoa (sumB x)).set j c)[j]'(by simpa using hj) := by congr 1
    rw [List.getElem_set_self] at e4
    exact hc e4.symm
end Go.Proofs.YtahbepajeplcmaaDoor

/- Plain facts: the book of a text. No program in sight. -/
namespace Go.Proofs.YtahbepajeplcmaaDoor

/-- The lines of a text, each with its end. -/
def linesB : List UInt8 → List (List UInt8)
  | [] => []
  | c :: l => if eqB c 10 then [c] :: linesB l else match linesB l with
    | p :: ps => (c :: p) :: ps
    | [] => [[c]]
theorem linesB_some : ∀ {l : List UInt8} {c : UInt8} {m : List UInt8}, hasB l 10 = false → eqB c 10 = true → linesB (l ++ c :: m) = (l ++ [c]) :: linesB m
  | [], c, m, _, h => by rw [List.nil_append, linesB, h]; rfl
  | x :: l, c, m, h, h' => by
    rw [hasB_cons] at h
    have h1 : eqB x 10 = false := by cases e : eqB x 10 <;> simp_all
    have h2 : hasB l 10 = false := by cases e : hasB l 10 <;> simp_all
    rw [List.cons_append, linesB, h1, linesB_some h2 h']; rfl
theorem linesB_none : ∀ {l : List UInt8}, hasB l 10 = false → l ≠ [] → linesB l = [l]
  | [], _, h => absurd rfl h
  | [x], h, _ => by
    rw [hasB_cons] at h
    have h1 : eqB x 10 = false := by cases e : eqB x 10 <;> simp_all
    rw [linesB, h1]; rfl
  | x :: y :: l, h, _ => by
    rw [hasB_cons] at h
    have h1 : eqB x 10 = false := by cases e : eqB x 10 <;> simp_all
    have h2 : hasB (y :: l) 10 = false := by cases e : hasB (y :: l) 10 <;> simp_all
    rw [linesB, h1, linesB_none h2 (by simp)]; rfl
/-- A line without its end. -/
def trimB (l : List UInt8) : List UInt8 := Lib.trimSuffix l [10]
/-- A record's number of a letter. -/
def sysB (c : UInt8) : Int := Lib.indexByte [114, 116, 108, 112] c + 1
/-- A line's words, as a record. -/
def rdW : List (List UInt8) → Option Rec
  | [a, [c], u, v] => if (numB u).2 && (numB v).2 then some ⟨a, sysB c, (numB u).1, (numB v).1⟩ else none
  | _ => none
def rdR (p : List UInt8) : Option Rec := rdW (splitP 32 p)
/-- The line of a record, without its end. -/
def recN (r : Rec) : List UInt8 := r.name ++ 32 :: (letB r.sys ++ 32 :: (Lib.itoa r.size ++ 32 :: Lib.itoa r.extra))
theorem recT_recN (r : Rec) : recT r = recN r ++ [10] := by simp [recT, recN]
theorem dig_noB {b : Int} (hb : b < 48) : ∀ (n u : Nat), u ≤ n → hasB (Lib.decDigits u) b = false := by
  intro n u hu
  unfold hasB
  rw [List.any_eq_false]
  intro c hc
  have := decDigits_digit n u hu c hc
  simp only [beq_iff_eq]
  omega
theorem itoa_noB {b : Int} (hb : b < 45) (v : Int) : hasB (Lib.itoa v) b = false := by
  unfold Lib.itoa
  split
  · rw [hasB_cons, dig_noB (by omega) _ _ (Nat.le_refl _), Bool.or_false]
    show ((((45 : UInt8).toNat : Int)) == b) = false
    rw [beq_eq_false_iff_ne]
    have : ((45 : UInt8).toNat : Int) = 45 := rfl
    omega
  · exact dig_noB (by omega) _ _ (Nat.le_refl _)
theorem name_noB {l : List UInt8} {b : Int} (h : l.all nameC = true) (hb : b < 48) : hasB l b = false := by
  unfold hasB
  rw [List.any_eq_false]
  intro c hc
  have := List.all_eq_true.1 h c hc
  simp only [nameC, Bool.or_eq_true, inB_true] at this
  simp only [beq_iff_eq]
  omega
theorem let_noB (s : Int) {b : Int} (hb : b < 108) : hasB (letB s) b = false := by
  unfold letB hasB
  simp only [List.any_cons, List.any_nil, Bool.or_false, beq_eq_false_iff_ne]
  split
  · have : ((114 : UInt8).toNat : Int) = 114 := rfl
    omega
  · split
    · have : ((116 : UInt8).toNat : Int) = 116 := rfl
      omega
    · split
      · have : ((108 : UInt8).toNat : Int) = 108 := rfl
        omega
      · have : ((112 : UInt8).toNat : Int) = 112 := rfl
        omega
theorem sys_let {s : Int} (h1 : 1 ≤ s) (h4 : s ≤ 4) : ∃ c, letB s = [c] ∧ sysB c = s := by
  obtain rfl | rfl | rfl | rfl : s = 1 ∨ s = 2 ∨ s = 3 ∨ s = 4 := by omega
  all_goals exact ⟨_, rfl, by decide⟩
theorem rd_rec {r : Rec} (h : recB r = true) : rdR (recN r) = some r := by
  obtain ⟨_, hn, ⟨s1, s4⟩, hz, he⟩ := rec_parts h
  obtain ⟨c, hc, hsy⟩ := sys_let s1 s4
  have hl := let_noB r.sys (b := 32) (by decide)
  unfold rdR recN
  rw [splitP_some (name_noB hn (by decide)) (by decide), splitP_some hl (by decide), splitP_some (itoa_noB (by decide) _) (by decide), splitP_none (itoa_noB (by decide) _), hc]
  simp only [rdW]
  rw [numB_itoa (by omega) (by omega), numB_itoa (by omega) (by omega), hsy]; rfl
theorem recN_no {r : Rec} (h : recB r = true) : hasB (recN r) 10 = false := by
  obtain ⟨_, hn, _, _, _⟩ := rec_parts h
  unfold recN
  simp only [hasB_append, hasB_cons, name_noB hn (show (10 : Int) < 48 by decide), let_noB r.sys (show (10 : Int) < 108 by decide), itoa_noB (show (10 : Int) < 45 by decide)]
  decide
theorem lines_text : ∀ {xs : List Rec}, (∀ r ∈ xs, recB r = true) → linesB (textB xs) = xs.map recT
  | [], _ => rfl
  | r :: xs, h => by
    have e : textB (r :: xs) = recN r ++ 10 :: textB xs := by
      unfold textB
      rw [List.flatMap_cons, recT_recN, List.append_assoc]; rfl
    rw [e, linesB_some (recN_no (h r (by simp))) (by decide), lines_text fun q hq => h q (by simp [hq]), List.map_cons, recT_recN]
theorem split_text : ∀ {xs : List Rec}, (∀ r ∈ xs, recB r = true) → splitP 10 (textB xs) = xs.map recN ++ [[]]
  | [], _ => rfl
  | r :: xs, h => by
    have e : textB (r :: xs) = recN r ++ 10 :: textB xs := by
      unfold textB
      rw [List.flatMap_cons, recT_recN, List.append_assoc]; rfl
    rw [e, splitP_some (recN_no (h r (by simp))) (by decide), split_text fun q hq => h q (by simp [hq])]; rfl
theorem trim_recT (r : Rec) : trimB (recT r) = recN r := by
  rw [recT_recN]
  unfold trimB Lib.trimSuffix
  simp [Lib.hasSuffix]
theorem rd_line {r : Rec} (h : recB r = true) : rdR (trimB (recT r)) = some r := by rw [trim_recT, rd_rec h]

/-- The book of a text. -/
def IsP (s : List UInt8) (xs : List Rec) : Prop := bookB xs = true ∧ textB xs = s
def parB (s : List UInt8) : List Rec × Bool :=
  let xs := (linesB s).map fun p => (rdR (trimB p)).getD ⟨[], 0, 0, 0⟩
  if bookB xs && textB xs == s then (xs, true) else ([], false)
theorem isP_lines {s : List UInt8} {xs : List Rec} (h : IsP s xs) : linesB s = xs.map recT ∧ splitP 10 s = xs.map recN ++ [[]] ∧ (∀ r ∈ xs, recB r = true) := by
  obtain ⟨h1, rfl⟩ := h
  exact ⟨lines_text (book_all h1), split_text (book_all h1), book_all h1⟩
theorem is_parB {s : List UInt8} {xs : List Rec} (h : IsP s xs) : parB s = (xs, true) := by
  obtain ⟨h1, -, h3⟩ := isP_lines h
  have e : ((linesB s).map fun p => (rdR (trimB p)).getD ⟨[], 0, 0, 0⟩) = xs := by
    rw [h1, List.map_map]
    conv => rhs; rw [← List.map_id xs]
    exact List.map_congr_left fun r hr => by simp [Function.comp, rd_line (h3 r hr)]
  unfold parB
  simp only [e]
  rw [if_pos (by rw [h.1, h.2]; simp)]
theorem parB_is {s : List UInt8} {xs : List Rec} (h : parB s = (xs, true)) : IsP s xs := by
  unfold parB at h
  simp only at h
  split at h
  · rename_i hq
    obtain ⟨rfl, -⟩ := Prod.mk.inj h
    rw [Bool.and_eq_true, beq_iff_eq] at hq
    exact hq
  · cases (Prod.mk.inj h).2
theorem parB_no {s : List UInt8} (h : ∀ xs, ¬ IsP s xs) : parB s = ([], false) := by
  cases hp : parB s with
  | mk xs q => cases q with
    | true => exact absurd (parB_is hp) (h xs)
    | false =>
      unfold parB at hp
      simp only at hp
      split at hp
      · cases (Prod.mk.inj hp).2
      · exact hp.symm
theorem map_some_inj {α : Type} : ∀ {xs ys : List α}, xs.map some = ys.map some → xs = ys
  | [], [], _ => rfl
  | [], _ :: _, h => by cases h
  | _ :: _, [], h => by cases h
  | x :: xs, y :: ys, h => by
    simp only [List.map_cons, List.cons.injEq, Option.some.injEq] at h
    rw [h.1, map_some_inj h.2]
/-- What fails in the program's course. -/
theorem line_no {s : List UInt8} {p : List UInt8} (hp : p ∈ linesB s) (h : rdR (trimB p) = none) : parB s = ([], false) :=
  parB_no fun xs hI => by
    obtain ⟨h1, -, h3⟩ := isP_lines hI
    rw [h1] at hp
    obtain ⟨r, hr, rfl⟩ := List.mem_map.1 hp
    rw [rd_line (h3 r hr)] at h
    cases h
theorem line_end {s : List UInt8} {xs : List Rec} (h : (linesB s).map (fun p => rdR (trimB p)) = xs.map some) : parB s = if bookB xs && textB xs == s then (xs, true) else ([], false) := by
  have e : ((linesB s).map fun p => (rdR (trimB p)).getD ⟨[], 0, 0, 0⟩) = xs := by
    have : ((linesB s).map fun p => (rdR (trimB p)).getD ⟨[], 0, 0, 0⟩) = ((linesB s).map (fun p => rdR (trimB p))).map (fun o => o.getD ⟨[], 0, 0, 0⟩) := by rw [List.map_map]; rfl
    rw [this, h, List.map_map]
    conv => rhs; rw [← List.map_id xs]
    exact List.map_congr_left fun r _ => rfl
  unfold parB
  simp only [e]
/-- What fails in the reference's course. -/
theorem part_no {s : List UInt8} {i : Nat} (hi : i + 1 < (splitP 10 s).length) (h : ∀ r, rdR (splitP 10 s)[i] = some r → r.sys = 0) : parB s = ([], false) :=
  parB_no fun xs hI => by
    obtain ⟨-, h1, h3⟩ := isP_lines hI
    have hl : (splitP 10 s).length = xs.length + 1 := by rw [h1]; simp
    have hix : i < xs.length := by omega
    have e : (splitP 10 s)[i] = recN xs[i] := by
      simp only [h1]
      rw [List.getElem_append_left (by simpa using hix), List.getElem_map]
    have hr := h3 xs[i] (List.getElem_mem hix)
    have := h xs[i] (by rw [e]; exact rd_rec hr)
    have := (rec_parts hr).2.2.1
    omega
theorem part_end {s : List UInt8} {i : Nat} {xs : List Rec} (hi : i + 1 ≤ (splitP 10 s).length) (h : ((splitP 10 s).take i).map rdR = xs.map some) (hq : i + 1 = (splitP 10 s).length ∨ 24 < xs.length) :
    parB s = if bookB xs && textB xs == s then (xs, true) else ([], false) := by
  cases hb : (bookB xs && textB xs == s)
  · rw [if_neg (by decide)]
    refine parB_no fun ys hI => ?_
    obtain ⟨-, h1, h3⟩ := isP_lines hI
    have hl : (splitP 10 s).length = ys.length + 1 := by rw [h1]; simp
    have hiy : i ≤ ys.length := by omega
    have e : xs = ys.take i := by
      have e1 : ((splitP 10 s).take i).map rdR = (ys.take i).map some := by
        rw [h1, List.take_append_of_le_length (by simpa using hiy), ← List.map_take, List.map_map]
        exact List.map_congr_left fun r hr => rd_rec (h3 r (List.mem_of_mem_take hr))
      rw [h] at e1
      exact map_some_inj e1
    have hly := book_le hI.1
    have hlx := congrArg List.length e
    rw [List.length_take] at hlx
    rcases hq with hq | hq
    · rw [show i = ys.length by omega, List.take_length] at e
      subst e
      rw [hI.1, hI.2] at hb
      simp at hb
    · omega
  · rw [Bool.and_eq_true, beq_iff_eq] at hb
    rw [if_pos rfl]
    exact is_parB hb
end Go.Proofs.YtahbepajeplcmaaDoor

/- Contracts of small functions on numbers and bytes. -/
namespace Go.Proofs.YtahbepajeplcmaaDoor
open Go.RowKit

set_option maxHeartbeats 400000 in
theorem l1In_any (x a b : Int) (w : World) :
    Calls Tryd.prog 34 #[.int .i64 x, .int .i64 a, .int .i64 b] w fun e w' => e = .returned (.bool (inB x a b)) ∧ w = w' := by
  by_cases h : a ≤ x
  · go_enter Tryd.func34, Tryd.ntmps34
    go_wp2
    go_ret
    exact ⟨ret_bool (by simp [inB, h]), rfl⟩
  · go_enter Tryd.func34, Tryd.ntmps34
    go_wp2
    go_ret
    exact ⟨ret_bool (by simp [inB]; omega), rfl⟩

set_option maxHeartbeats 400000 in
theorem within_any (x a b : Int) (w : World) :
    Calls Tryd.prog 38 #[.int .i64 x, .int .i64 a, .int .i64 b] w fun e w' => e = .returned (.bool (inB x a b)) ∧ w = w' := by
  by_cases h : a ≤ x
  · go_enter Tryd.func38, Tryd.ntmps38
    go_wp2
    go_ret
    exact ⟨ret_bool (by simp [inB, h]), rfl⟩
  · go_enter Tryd.func38, Tryd.ntmps38
    go_wp2
    go_ret
    exact ⟨ret_bool (by simp [inB]; omega), rfl⟩

/- left out: the seat has no spec.l1Stands -/
end Go.Proofs.YtahbepajeplcmaaDoor

/- Contracts: the bytes of a record, in the reference. -/
namespace Go.Proofs.YtahbepajeplcmaaDoor
open Go.RowKit

/- left out: the seat has no spec.l33Plain -/


/- left out: the seat has no spec.l33Good -/

/- left out: the seat has no spec.IsValidRecord -/

/- left out: the seat has no laws.toLogRecord -/

/- left out: the seat has no laws.szLogRecord -/
end Go.Proofs.YtahbepajeplcmaaDoor

/- Contracts: the bytes of a record, in the program; the law FnExactIsValidRecord. -/
namespace Go.Proofs.YtahbepajeplcmaaDoor
open Go.RowKit

theorem indexAny_neg (chars : List UInt8) : ∀ l : List UInt8, (0 ≤ Lib.indexAny l chars) = (l.any chars.contains = true)
  | [] => by simp [Lib.indexAny]
  | b :: l => by
    have ih := indexAny_neg chars l
    have hg := Lib.indexAny_ge chars l
    unfold Lib.indexAny
    by_cases h : chars.contains b = true
    · rw [if_pos h, List.any_cons, h]; simp
    · have h' : chars.contains b = false := by simpa using h
      rw [if_neg h, List.any_cons, h', Bool.false_or, ← ih]
      by_cases h1 : Lib.indexAny l chars = -1
      · rw [if_pos (beq_iff_eq.2 h1), h1]
      · rw [if_neg (by rw [beq_iff_eq]; exact h1)]; exact propext (by omega)
theorem containsAny_eq (l chars : List UInt8) : Lib.containsAny l chars = l.any chars.contains := by
  unfold Lib.containsAny
  have := indexAny_neg chars l
  by_cases h : l.any chars.contains = true
  · rw [h]; rw [h] at this; simp only [eq_self] at this; simpa using this
  · have h' : l.any chars.contains = false := by simpa using h
    rw [h']; rw [h'] at this; simpa using this
theorem seenB_ascii {l : List UInt8} (h : seenB l = true) : ∀ (j : Nat) b, l[j]? = some b → b.toNat < 128 := by
  intro j b hj
  have hm : b ∈ l := List.mem_of_getElem? hj
  have := (List.all_eq_true.1 h) b hm
  have := inB_true.1 this
  omega

/-- What 'printable' tells. -/
def printB (l chars : List UInt8) : Bool := seenB l && !Lib.containsAny l chars

/- left out: the seat has no impl.printable -/

/-- What the program calls a good record. -/
def goodI (c r : List UInt8) : Bool := inB c.length 1 160 && decide ((r.length : Int) ≤ 200) && printB c [35, 64] && printB r [35]

theorem u8_eq (c : UInt8) (n : Nat) (h : n < 256) : (c = UInt8.ofNat n) ↔ (c.toNat : Int) = n := by
  constructor
  · rintro rfl; simp; omega
  · intro e
    apply UInt8.toNat_inj.1
    simp
    omega

theorem printB_plain (l : List UInt8) : printB l [35] = allB l := by
  unfold printB seenB allB
  rw [containsAny_eq]
  induction l with
  | nil => rfl
  | cons c l ih =>
    simp only [List.all_cons, List.any_cons, Bool.not_or] at *
    rw [← ih, okB]
    have e : ([35] : List UInt8).contains c = ((c.toNat : Int) == 35) := by
      have := u8_eq c 35 (by decide)
      rw [Bool.eq_iff_iff]; simp; exact this
    rw [e]
    cases inB c.toNat 32 126 <;> cases ((c.toNat : Int) == 35) <;> simp
theorem printB_two (l : List UInt8) : printB l [35, 64] = (allB l && !hasB l 64) := by
  unfold printB seenB allB hasB
  rw [containsAny_eq]
  induction l with
  | nil => rfl
  | cons c l ih =>
    simp only [List.all_cons, List.any_cons, Bool.not_or] at *
    have e : ([35, 64] : List UInt8).contains c = (((c.toNat : Int) == 35) || ((c.toNat : Int) == 64)) := by
      have h1 := u8_eq c 35 (by decide)
      have h2 := u8_eq c 64 (by decide)
      rw [Bool.eq_iff_iff]; simp
      exact or_congr h1 h2
    rw [e, okB]
    revert ih
    generalize (l.all fun c => inB c.toNat 32 126) = p
    generalize (l.any ([35, 64] : List UInt8).contains) = q
    generalize (l.all okB) = u
    generalize (l.any fun c => (c.toNat : Int) == 64) = v
    generalize inB c.toNat 32 126 = x
    generalize ((c.toNat : Int) == 35) = y
    generalize ((c.toNat : Int) == 64) = z
    revert p q u v x y z
    decide
theorem goodI_eq (c r : List UInt8) : goodI c r = goodB c r := by
  unfold goodI goodB plainB
  rw [printB_plain, printB_two]
  cases c with
  | nil => simp [inB]
  | cons b c =>
    have e : inB (((b :: c).length : Nat) : Int) 1 160 = decide (((b :: c).length : Int) ≤ 160) := by
      simp [inB]; omega
    rw [e]
    generalize allB (b :: c) = x
    generalize decide (((b :: c).length : Int) ≤ 160) = y
    generalize hasB (b :: c) 64 = z
    generalize allB r = u
    generalize decide ((r.length : Int) ≤ 200) = v
    simp only [List.isEmpty_cons]
    revert x y z u v
    decide

theorem ascii2 : ∀ (j : Nat) b, (ByteArray.mk #[35, 64]).data.toList[j]? = some b → b.toNat < 128 := by
  intro j b hj
  have := List.mem_of_getElem? hj
  simp at this
  rcases this with rfl | rfl <;> decide
theorem ascii1 : ∀ (j : Nat) b, (ByteArray.mk #[35]).data.toList[j]? = some b → b.toNat < 128 := by
  intro j b hj
  have := List.mem_of_getElem? hj
  simp at this
  subst this; decide

/- left out: the seat has no impl.IsValidRecord -/

end Go.Proofs.YtahbepajeplcmaaDoor

/- Contracts: decimals, checksums and sealed strings, in the reference. -/
namespace Go.Proofs.YtahbepajeplcmaaDoor
open Go.RowKit

theorem ret_str {s t : ByteArray} (h : s = t) : Ending.returned (.string s) = .returned (.string t) := by rw [h]

/-- One decimal digit. -/
def dgB (n : Int) : List UInt8 := [UInt8.ofNat (48 + n.toNat)]
theorem dgB_length (n : Int) : (dgB n).length = 1 := rfl

theorem digit_int (n : Int) (h0 : 0 ≤ n) (h : n < 10) : (ByteArray.mk #[48, 49, 50, 51, 52, 53, 54, 55, 56, 57]).extract n.toNat (n + 1).toNat = ms (dgB n) := by
  unfold dgB
  rw [show (n + 1).toNat = n.toNat + 1 by omega]
  exact digit_at _ (by omega)

set_option maxHeartbeats 400000 in
theorem l1Num_nat (k : Nat) : ∀ (n : Int) (w : World), 0 ≤ n → n ≤ 1000000000000 → n.toNat ≤ k →
    Calls Tryd.prog 42 #[.int .i64 n] w fun e w' => e = .returned (.string (ms (Lib.decDigits n.toNat))) ∧ Below w.heap.size w w' := by
  induction k with
  | zero =>
    intro n w h0 hb hk
    have h : n < 10 := by omega
    go_enter Tryd.func42, Tryd.ntmps42
    go_wp2_with fail
    go_ret
    exact ⟨ret_str (by rw [Lib.decDigits, dif_pos (by omega)]; exact digit_int n h0 h), bb _⟩
  | succ k ih =>
    intro n w h0 hb hk
    by_cases h : n < 10
    · go_enter Tryd.func42, Tryd.ntmps42
      go_wp2_with fail
      go_ret
      exact ⟨ret_str (by rw [Lib.decDigits, dif_pos (by omega)]; exact digit_int n h0 h), bb _⟩
    · have hl : (Lib.decDigits (n / 10).toNat).length ≤ 13 := decDigits_len 12 _ (by omega)
      have hm1 : 0 ≤ n % 10 := by omega
      have hm2 : n % 10 < 10 := by omega
      have e4 := digit_int (n % 10) hm1 hm2
      have e5 := fun w => run_add (P := Tryd.prog) w (ms (Lib.decDigits (n / 10).toNat)) (ms (dgB (n % 10))) (by rw [ms_size, ms_size, dgB_length]; omega)
      have e6 : Hid (bl (ms (Lib.decDigits (n / 10).toNat)) ++ bl (ms (dgB (n % 10))) = Lib.decDigits n.toNat) := by
        rw [bl_ms, bl_ms, decDigits_big (u := n.toNat) (by omega)]
        unfold Hid dgB
        rw [show n.toNat / 10 = (n / 10).toNat by omega, show n.toNat % 10 = (n % 10).toNat by omega]
      have q1 : 0 ≤ n / 10 := by omega
      have q2 : n / 10 ≤ 1000000000000 := by omega
      have q3 : (n / 10).toNat ≤ k := by omega
      have e1 : IntKind.i64.wrap (n.tdiv 10) = n / 10 := by rw [Int.tdiv_eq_ediv_of_nonneg h0]; exact IntWalk.i64_in _ (by omega)
      have e2 : IntKind.i64.wrap (n.tmod 10) = n % 10 := by rw [Int.tmod_eq_emod_of_nonneg h0]; exact IntWalk.i64_in _ (by clear e1; omega)
      have e3 : IntKind.i64.wrap (n % 10 + 1) = n % 10 + 1 := IntWalk.i64_in _ (by clear e1 e2; omega)
      go_enter Tryd.func42, Tryd.ntmps42
      go_wp2_with fail
      refine wp_region_quiet_below (by kernel_rfl) (by kernel_rfl) ?_
      repeat (any_goals (first | go_big_quiet_step ((go_at_call 42; exact Calls.regrown_of (ih (n / 10) _ q1 q2 q3))) | quiet_step ((go_at_call 42; exact Calls.regrown_of (ih (n / 10) _ q1 q2 q3)))))
      refine wpQuiet_nil ?_
      rintro w1 ⟨p, rfl⟩
      go_wp2_with fail
      go_ret
      exact ⟨ret_str (congrArg ms e6.out), below_regrown _ _ _⟩

theorem l1Num_pos (n : Int) (w : World) (h0 : 0 ≤ n) (h1 : n ≤ 1000000000000) :
    Calls Tryd.prog 42 #[.int .i64 n] w fun e w' => e = .returned (.string (ms (Lib.itoa n))) ∧ Below w.heap.size w w' := by
  have e : Lib.itoa n = Lib.decDigits n.toNat := by rw [Lib.itoa, if_neg (by omega)]
  rw [e]
  exact l1Num_nat n.toNat n w h0 h1 (Nat.le_refl _)

set_option maxHeartbeats 400000 in
theorem l1Num_any (n : Int) (w : World) (h0 : -1000000000000 ≤ n) (h1 : n ≤ 1000000000000) :
    Calls Tryd.prog 42 #[.int .i64 n] w fun e w' => e = .returned (.string (ms (Lib.itoa n))) ∧ Below w.heap.size w w' := by
  by_cases hn : n < 0
  · have hl : (Lib.itoa (-n)).length ≤ 13 := by
      rw [Lib.itoa, if_neg (by omega)]; exact decDigits_len 12 _ (by omega)
    have e6 : Hid (45 :: Lib.itoa (-n) = Lib.itoa n) := by
      unfold Hid
      rw [Lib.itoa, if_neg (by omega), Lib.itoa, if_pos hn, show n.natAbs = (-n).toNat by omega]
    go_enter Tryd.func42, Tryd.ntmps42
    go_wp2_with (go_at_call 42; refine (l1Num_pos (-n) _ (by omega) (by omega)).mono ?_; rintro e w1 ⟨rfl, hb1⟩)
    go_ret
    exact ⟨ret_str (by apply bl_inj; rw [bl_ms, ← e6.out]; simp [bl_append, bl_ms, bl_lit]), by assumption⟩
  · exact l1Num_pos n w (by omega) h1

/- left out: the seat has no spec.l1Sum -/

/- left out: the seat has no spec.l1Seal -/

/- left out: the seat has no spec.l33Line -/

/- left out: the seat has no spec.EncodeRecord -/
end Go.Proofs.YtahbepajeplcmaaDoor

/- Contracts: checksums and sealed strings, in the program. -/
namespace Go.Proofs.YtahbepajeplcmaaDoor
open Go.RowKit

/-- What the calls of the library need of the world: its variable MaxLen holds a number, the table of powers of ten holds them. -/
structure Env (w : World) : Prop where
  maxlen : ∃ m : Int, w.cell? ⟨1, 0, none⟩ = some (.int .i64 m)
  pow : Lib.TabIs Tryd.prog w "internal/strconv.uint64pow10" .u64 Lib.pow10Tab
  low : 1 < w.heap.size ∧ 6 < w.heap.size
theorem globalPow : Tryd.prog.globalNamed "internal/strconv.uint64pow10" = some 6 := by kernel_rfl
theorem Env.below {B : Nat} {w w' : World} (h : Env w) (hb : Below B w w') (hB : w.heap.size ≤ B) : Env w' := by
  obtain ⟨⟨m, hm⟩, hp, hl⟩ := h
  exact ⟨⟨m, by rw [hb.cell (p := ⟨1, 0, none⟩) (Nat.lt_of_lt_of_le hl.1 hB)]; exact hm⟩, Joins.tab_stays globalPow hp hb hB, Nat.lt_of_lt_of_le hl.1 hb.size, Nat.lt_of_lt_of_le hl.2 hb.size⟩
theorem Env.grow {w w' : World} (h : Env w) (hb : Below w.heap.size w w') : Env w' := h.below hb (Nat.le_refl _)
theorem Env.alloc {w : World} (h : Env w) (o : Obj) : Env (w.alloc o) := h.grow (bal (bb _) _)

theorem itoa_env (n : Int) (h0 : -9223372036854775808 ≤ n) (h1 : n ≤ 9223372036854775807) (w : World) (hE : Env w) :
    Calls Tryd.prog 50 #[.int .i64 n] w fun e w' => e = .returned (.string (ms (Lib.itoa n))) ∧ Below w.heap.size w w' := by
  refine (Tryd.strconv_Itoa n h0 h1 w hE.pow).mono ?_
  rintro e w' ⟨rfl, k, os, rfl⟩
  exact ⟨rfl, below_regrown w (w.drewN k).drawn os⟩
/- left out: the seat has no strings.Contains -/

/- left out: the seat has no impl.Checksum -/

/- left out: the seat has no impl.AppendChecksum -/

theorem appB_len (l : List UInt8) : (appB l).1.length ≤ 4000 := by
  unfold appB
  split
  · rename_i h
    simp only [Bool.and_eq_true, decide_eq_true_eq] at h
    have := h.2; show (sealB l).length ≤ 4000; omega
  · simp
theorem cutP_len (b : Int) (l : List UInt8) : (cutP b l).1.length ≤ l.length := by
  rcases cut_cases b l with h | ⟨x, c, y, rfl, h1, h2⟩
  · rw [cutP_none h]; exact Nat.le_refl _
  · rw [cutP_some h1 h2]; simp

/- left out: the seat has no impl.VerifyChecksum -/
end Go.Proofs.YtahbepajeplcmaaDoor

/- How Go values hold data in memory, with the blocks that are reached. No program in sight. -/
namespace Go.Proofs.YtahbepajeplcmaaDoor
open Go.RowKit

/-- A number that fits an int. -/
def I64 (n : Int) : Prop := -9223372036854775808 ≤ n ∧ n ≤ 9223372036854775807

/-- The cell at offset o of block b holds v; where wr, it may be written. -/
def cellIs (wr : Bool) (w : World) (b o : Nat) (v : Value) : Prop :=
  w.cell? ⟨b, o, none⟩ = some v ∧ (wr = true → w.frozen? ⟨b, o, none⟩ = false)

theorem cellIs.keep {wr : Bool} {w w' : World} {b o : Nat} {v : Value} (h : cellIs wr w b o v) (hb : w'.heap[b]? = w.heap[b]?) : cellIs wr w' b o v :=
  ⟨by rw [World.cell?_of_block (w := w) hb]; exact h.1, fun e => by rw [World.frozen?_of_block (w := w) hb]; exact h.2 e⟩
theorem cellIs.down {w : World} {b o : Nat} {v : Value} {wr : Bool} (h : cellIs wr w b o v) : cellIs false w b o v := ⟨h.1, fun e => by cases e⟩
theorem cellIs.lt {w : World} {b o : Nat} {v : Value} {wr : Bool} (h : cellIs wr w b o v) : b < w.heap.size := World.block_lt_of_cell? w _ h.1

/-- How a Go type holds data of type α in 'size' cells; the last argument: the blocks that are reached, one for each slice that is not empty. -/
structure Ty (α : Type) where
  size : Nat
  rep : Bool → World → List Value → α → List Nat → Prop
  len : ∀ {wr w cs x F}, rep wr w cs x F → cs.length = size
  lt : ∀ {wr w cs x F}, rep wr w cs x F → ∀ b ∈ F, b < w.heap.size
  keep : ∀ {wr w w' cs x F}, rep wr w cs x F → (∀ b ∈ F, w'.heap[b]? = w.heap[b]?) → rep wr w' cs x F
  down : ∀ {wr w cs x F}, rep wr w cs x F → rep false w cs x F

def Ty.int : Ty Int where
  size := 1
  rep _ _ cs n F := cs = [.int .i64 n] ∧ I64 n ∧ F = []
  len h := by obtain ⟨rfl, _, _⟩ := h; rfl
  lt h := by obtain ⟨_, _, rfl⟩ := h; simp
  keep h _ := h
  down h := h
def Ty.bool : Ty Bool where
  size := 1
  rep _ _ cs n F := cs = [.bool n] ∧ F = []
  len h := by obtain ⟨rfl, _⟩ := h; rfl
  lt h := by obtain ⟨_, rfl⟩ := h; simp
  keep h _ := h
  down h := h
def Ty.str : Ty ByteArray where
  size := 1
  rep _ _ cs s F := cs = [.string s] ∧ s.size ≤ 9223372036854775807 ∧ F = []
  len h := by obtain ⟨rfl, _, _⟩ := h; rfl
  lt h := by obtain ⟨_, _, rfl⟩ := h; simp
  keep h _ := h
  down h := h
def Ty.pair {α β : Type} (T : Ty α) (U : Ty β) : Ty (α × β) where
  size := T.size + U.size
  rep wr w cs x F := ∃ c d F1 F2, cs = c ++ d ∧ F = F1 ++ F2 ∧ T.rep wr w c x.1 F1 ∧ U.rep wr w d x.2 F2
  len h := by obtain ⟨c, d, F1, F2, rfl, _, h1, h2⟩ := h; simp [T.len h1, U.len h2]
  lt h := by
    obtain ⟨c, d, F1, F2, _, rfl, h1, h2⟩ := h
    intro b hb
    rcases List.mem_append.1 hb with hb | hb
    · exact T.lt h1 b hb
    · exact U.lt h2 b hb
  keep h hk := by
    obtain ⟨c, d, F1, F2, e1, rfl, h1, h2⟩ := h
    exact ⟨c, d, F1, F2, e1, rfl, T.keep h1 fun b hb => hk b (List.mem_append.2 (.inl hb)), U.keep h2 fun b hb => hk b (List.mem_append.2 (.inr hb))⟩
  down h := by
    obtain ⟨c, d, F1, F2, e1, e2, h1, h2⟩ := h
    exact ⟨c, d, F1, F2, e1, e2, T.down h1, U.down h2⟩
/-- The same cells, the data told otherwise. -/
def Ty.as {α β : Type} (T : Ty α) (g : β → α) : Ty β where
  size := T.size
  rep wr w cs x F := T.rep wr w cs (g x) F
  len h := T.len h
  lt h := T.lt h
  keep h hk := T.keep h hk
  down h := T.down h

section all
variable {α : Type} (T : Ty α)
/-- Cells that hold a list of elements, one behind the other. -/
def Ty.all (wr : Bool) (w : World) : List Value → List α → List Nat → Prop
  | cs, [], F => cs = [] ∧ F = []
  | cs, x :: xs, F => ∃ c d F1 F2, cs = c ++ d ∧ F = F1 ++ F2 ∧ T.rep wr w c x F1 ∧ Ty.all wr w d xs F2

variable {T}
theorem Ty.all_len {wr : Bool} {w : World} : ∀ {cs : List Value} {xs : List α} {F : List Nat}, T.all wr w cs xs F → cs.length = xs.length * T.size
  | _, [], _, h => by obtain ⟨rfl, _⟩ := h; simp
  | _, x :: xs, _, h => by
    obtain ⟨c, d, F1, F2, rfl, _, h1, h2⟩ := h
    rw [List.length_append, T.len h1, Ty.all_len h2, List.length_cons, Nat.add_mul]; omega
theorem Ty.all_lt {wr : Bool} {w : World} : ∀ {cs : List Value} {xs : List α} {F : List Nat}, T.all wr w cs xs F → ∀ b ∈ F, b < w.heap.size
  | _, [], _, h => by obtain ⟨_, rfl⟩ := h; simp
  | _, x :: xs, _, h => by
    obtain ⟨c, d, F1, F2, _, rfl, h1, h2⟩ := h
    intro b hb
    rcases List.mem_append.1 hb with hb | hb
    · exact T.lt h1 b hb
    · exact Ty.all_lt h2 b hb
theorem Ty.all_keep {wr : Bool} {w w' : World} : ∀ {cs : List Value} {xs : List α} {F : List Nat}, T.all wr w cs xs F → (∀ b ∈ F, w'.heap[b]? = w.heap[b]?) → T.all wr w' cs xs F
  | _, [], _, h, _ => h
  | _, x :: xs, _, h, hk => by
    obtain ⟨c, d, F1, F2, e1, rfl, h1, h2⟩ := h
    exact ⟨c, d, F1, F2, e1, rfl, T.keep h1 fun b hb => hk b (List.mem_append.2 (.inl hb)), Ty.all_keep h2 fun b hb => hk b (List.mem_append.2 (.inr hb))⟩
theorem Ty.all_down {wr : Bool} {w : World} : ∀ {cs : List Value} {xs : List α} {F : List Nat}, T.all wr w cs xs F → T.all false w cs xs F
  | _, [], _, h => h
  | _, x :: xs, _, h => by
    obtain ⟨c, d, F1, F2, e1, rfl, h1, h2⟩ := h
    exact ⟨c, d, F1, F2, e1, rfl, T.down h1, Ty.all_down h2⟩
theorem Ty.all_append {wr : Bool} {w : World} : ∀ {cs ds : List Value} {xs ys : List α} {F G : List Nat}, T.all wr w cs xs F → T.all wr w ds ys G → T.all wr w (cs ++ ds) (xs ++ ys) (F ++ G)
  | _, _, [], _, _, _, h, h' => by obtain ⟨rfl, rfl⟩ := h; exact h'
  | _, _, x :: xs, _, _, _, h, h' => by
    obtain ⟨c, d, F1, F2, rfl, rfl, h1, h2⟩ := h
    exact ⟨c, _, F1, _, List.append_assoc .., List.append_assoc .., h1, Ty.all_append h2 h'⟩
theorem Ty.all_one {wr : Bool} {w : World} {c : List Value} {x : α} {F : List Nat} (h : T.rep wr w c x F) : T.all wr w c [x] F :=
  ⟨c, [], F, [], by simp, by simp, h, rfl, rfl⟩
theorem Ty.all_snoc {wr : Bool} {w : World} {cs c : List Value} {xs : List α} {x : α} {F G : List Nat} (h : T.all wr w cs xs F) (h' : T.rep wr w c x G) : T.all wr w (cs ++ c) (xs ++ [x]) (F ++ G) :=
  Ty.all_append h (Ty.all_one h')
/-- The element at place k: what stands ahead of it, its own cells, what stands behind. -/
theorem Ty.all_split {wr : Bool} {w : World} : ∀ {cs : List Value} {xs : List α} {F : List Nat} (_ : T.all wr w cs xs F) (k : Nat) (hk : k < xs.length),
    ∃ c d e F1 F2 F3, cs = c ++ d ++ e ∧ F = F1 ++ F2 ++ F3 ∧ c.length = k * T.size ∧ T.all wr w c (xs.take k) F1 ∧ T.rep wr w d xs[k] F2 ∧ T.all wr w e (xs.drop (k + 1)) F3
  | _, x :: xs, _, h, 0, _ => by
    obtain ⟨c, d, F1, F2, rfl, rfl, h1, h2⟩ := h
    exact ⟨[], c, d, [], F1, F2, by simp, by simp, by simp, ⟨rfl, rfl⟩, h1, h2⟩
  | _, x :: xs, _, h, k + 1, hk => by
    obtain ⟨c, d, F1, F2, rfl, rfl, h1, h2⟩ := h
    obtain ⟨c', d', e', G1, G2, G3, rfl, rfl, hl, a1, a2, a3⟩ := Ty.all_split h2 k (by simpa using hk)
    exact ⟨c ++ c', d', e', F1 ++ G1, G2, G3, by simp, by simp, by rw [List.length_append, hl, T.len h1, Nat.add_mul]; omega, ⟨c, c', F1, G1, rfl, rfl, h1, a1⟩, by simpa using a2, by simpa using a3⟩
theorem Ty.all_take {wr : Bool} {w : World} {cs : List Value} {xs : List α} {F : List Nat} (h : T.all wr w cs xs F) (k : Nat) (hk : k ≤ xs.length) :
    ∃ F1, T.all wr w (cs.take (k * T.size)) (xs.take k) F1 ∧ ∀ b ∈ F1, b ∈ F := by
  rcases Nat.lt_or_ge k xs.length with hlt | hge
  · obtain ⟨c, d, e, F1, F2, F3, rfl, rfl, hl, a1, _, _⟩ := Ty.all_split h k hlt
    exact ⟨F1, by rw [← hl]; simpa using a1, fun b hb => by simp [hb]⟩
  · obtain rfl : k = xs.length := by omega
    exact ⟨F, by rw [List.take_length, ← Ty.all_len h, List.take_length]; exact h, fun _ h => h⟩
end all

/-- A slice value that holds a list. -/
def Ty.row {α : Type} (T : Ty α) (wr : Bool) (w : World) (v : Value) (xs : List α) (F : List Nat) : Prop :=
  ∃ (a : Option Addr) (cap : Nat) (cs : List Value) (G : List Nat), v = .slice a xs.length cap ∧ xs.length ≤ cap ∧ cap ≤ 9223372036854775807 ∧ T.all wr w cs xs G ∧
    ((xs = [] ∧ F = []) ∨ (0 < T.size ∧ xs ≠ [] ∧ ∃ b off, a = some ⟨b, off, none⟩ ∧ F = b :: G ∧ ∀ j (hj : j < cs.length), cellIs wr w b (off + j) cs[j]))

theorem Ty.row_lt {α : Type} {T : Ty α} {wr : Bool} {w : World} {v : Value} {xs : List α} {F : List Nat} (h : T.row wr w v xs F) : ∀ b ∈ F, b < w.heap.size := by
  obtain ⟨a, cap, cs, G, rfl, _, _, hall, h | ⟨hs, hne, b, off, rfl, rfl, hc⟩⟩ := h
  · obtain ⟨_, rfl⟩ := h; simp
  · intro b' hb'
    rcases List.mem_cons.1 hb' with rfl | hb'
    · have hl := Ty.all_len hall
      have hp : 0 < xs.length := List.length_pos_iff.2 hne
      exact (hc 0 (by rw [hl]; exact Nat.mul_pos hp hs)).lt
    · exact Ty.all_lt hall _ hb'
theorem Ty.row_keep {α : Type} {T : Ty α} {wr : Bool} {w w' : World} {v : Value} {xs : List α} {F : List Nat} (h : T.row wr w v xs F) (hk : ∀ b ∈ F, w'.heap[b]? = w.heap[b]?) : T.row wr w' v xs F := by
  obtain ⟨a, cap, cs, G, rfl, h1, h2, hall, h | ⟨hs, hne, b, off, rfl, rfl, hc⟩⟩ := h
  · obtain ⟨rfl, rfl⟩ := h
    exact ⟨a, cap, [], [], rfl, h1, h2, ⟨rfl, rfl⟩, .inl ⟨rfl, rfl⟩⟩
  · exact ⟨_, cap, cs, G, rfl, h1, h2, Ty.all_keep hall fun b' hb' => hk b' (List.mem_cons_of_mem _ hb'), .inr ⟨hs, hne, b, off, rfl, rfl, fun j hj => (hc j hj).keep (hk b List.mem_cons_self)⟩⟩
theorem Ty.row_down {α : Type} {T : Ty α} {wr : Bool} {w : World} {v : Value} {xs : List α} {F : List Nat} (h : T.row wr w v xs F) : T.row false w v xs F := by
  obtain ⟨a, cap, cs, G, rfl, h1, h2, hall, h | ⟨hs, hne, b, off, rfl, rfl, hc⟩⟩ := h
  · exact ⟨a, cap, cs, G, rfl, h1, h2, Ty.all_down hall, .inl h⟩
  · exact ⟨_, cap, cs, G, rfl, h1, h2, Ty.all_down hall, .inr ⟨hs, hne, b, off, rfl, rfl, fun j hj => (hc j hj).down⟩⟩

def Ty.slice {α : Type} (T : Ty α) : Ty (List α) where
  size := 1
  rep wr w cs xs F := ∃ v, cs = [v] ∧ T.row wr w v xs F
  len h := by obtain ⟨v, rfl, _⟩ := h; rfl
  lt h := by obtain ⟨v, _, h⟩ := h; exact Ty.row_lt h
  keep h hk := by obtain ⟨v, e, h⟩ := h; exact ⟨v, e, Ty.row_keep h hk⟩
  down h := by obtain ⟨v, e, h⟩ := h; exact ⟨v, e, Ty.row_down h⟩

theorem Ty.row_below {α : Type} {T : Ty α} {wr : Bool} {w w' : World} {B : Nat} {v : Value} {xs : List α} {F : List Nat} (h : T.row wr w v xs F) (hb : Below B w w') (hF : ∀ b ∈ F, b < B) : T.row wr w' v xs F :=
  Ty.row_keep h fun b hm => hb.block b (hF b hm)
theorem Ty.row_grow {α : Type} {T : Ty α} {wr : Bool} {w w' : World} {v : Value} {xs : List α} {F : List Nat} (h : T.row wr w v xs F) (hb : Below w.heap.size w w') : T.row wr w' v xs F :=
  Ty.row_below h hb (Ty.row_lt h)
/-- A slice that is not empty: its head, and its cells. -/
theorem Ty.row_view {α : Type} {T : Ty α} {wr : Bool} {w : World} {v : Value} {xs : List α} {F : List Nat} (h : T.row wr w v xs F) (hne : xs ≠ []) :
    ∃ b off cap cs G, v = .slice (some ⟨b, off, none⟩) xs.length cap ∧ xs.length ≤ cap ∧ cap ≤ 9223372036854775807 ∧ T.all wr w cs xs G ∧ F = b :: G ∧ ∀ j (hj : j < cs.length), cellIs wr w b (off + j) cs[j] := by
  obtain ⟨a, cap, cs, G, rfl, h1, h2, hall, ⟨e, _⟩ | ⟨hs, hne, b, off, rfl, rfl, hc⟩⟩ := h
  · exact absurd e hne
  · exact ⟨b, off, cap, cs, G, rfl, h1, h2, hall, rfl, hc⟩
theorem Ty.row_len {α : Type} {T : Ty α} {wr : Bool} {w : World} {v : Value} {xs : List α} {F : List Nat} (h : T.row wr w v xs F) : ∃ a cap, v = .slice a xs.length cap ∧ xs.length ≤ cap ∧ cap ≤ 9223372036854775807 := by
  obtain ⟨a, cap, cs, G, rfl, h1, h2, _⟩ := h
  exact ⟨a, cap, rfl, h1, h2⟩
theorem Ty.row_nil {α : Type} (T : Ty α) (wr : Bool) (w : World) (a : Option Addr) (cap : Nat) (h : cap ≤ 9223372036854775807) : T.row wr w (.slice a 0 cap) [] [] :=
  ⟨a, cap, [], [], rfl, Nat.zero_le _, h, ⟨rfl, rfl⟩, .inl ⟨rfl, rfl⟩⟩

/-- From the guide's owned row, its elements' own blocks beside it. -/
theorem Ty.row_of_owns {α : Type} {T : Ty α} {w : World} {base : Nat} {e : TypeId} {size : Nat} {v : Value} {xs : List α} {cs : List Value} {G : List Nat} (h : w.ownsRow base e size v xs.length cs) (hT : T.size = size) (hs : 0 < size)
    (hall : T.all true w cs xs G) :
    ∃ F, T.row true w v xs F ∧ (F = [] ∨ ∃ g, base ≤ g ∧ g < w.heap.size ∧ v.ownBlock = some g ∧ F = g :: G) ∧ (xs ≠ [] → F ≠ []) := by
  obtain ⟨hl, ⟨rfl, h0⟩ | ⟨g, cap, cur, rfl, hg, hh, hn, hm, hcs, ht⟩⟩ := h
  · have : xs = [] := List.length_eq_zero_iff.1 h0
    subst this
    exact ⟨[], Ty.row_nil _ _ _ _ _ (by omega), .inl rfl, by simp⟩
  · rcases Nat.eq_zero_or_pos xs.length with h0 | h0
    · have : xs = [] := List.length_eq_zero_iff.1 h0
      subst this
      exact ⟨[], Ty.row_nil _ _ _ _ _ ((by unfold maxLen at hm; omega)), .inl rfl, by simp⟩
    · have hlt : g < w.heap.size := by
        rcases Nat.lt_or_ge g w.heap.size with h | h
        · exact h
        · simp [Array.getElem?_eq_none h] at hh
      refine ⟨g :: G, ⟨_, cap, cs, G, rfl, hn, (by unfold maxLen at hm; omega), hall, .inr ⟨by omega, by rintro rfl; simp at h0, g, 0, rfl, rfl, fun j hj => ⟨?_, fun _ => ?_⟩⟩⟩, .inr ⟨g, hg, hlt, rfl, rfl⟩, by simp⟩
      · have hj' : j < cur.size := by
          rw [← ht] at hj
          simp at hj
          omega
        have e1 : cs[j] = cur[j] := by
          subst ht
          simp
        simp only [World.cell?, hh, Nat.zero_add]
        rw [e1]
        simp [hj']
      · simp [World.frozen?, hh]
end Go.Proofs.YtahbepajeplcmaaDoor
