/- Plain facts on byte strings: no program in sight. -/
import Derived.WalkKit
import Derived.Lib.ItoaNum
namespace Go.Proofs.Ytcdgpekefiplnaa

/-- The bytes of a string. -/
def bl (s : ByteArray) : List UInt8 := s.data.toList
/-- The string of some bytes. -/
def ms (l : List UInt8) : ByteArray := ⟨l.toArray⟩

@[go_sem] theorem bl_ms (l : List UInt8) : bl (ms l) = l := rfl
theorem ms_bl (s : ByteArray) : ms (bl s) = s := rfl
theorem bl_length (s : ByteArray) : (bl s).length = s.size := rfl
theorem bl_lit (a : Array UInt8) : bl ⟨a⟩ = a.toList := rfl
theorem bl_inj {s t : ByteArray} (h : bl s = bl t) : s = t := by
  have := congrArg ms h
  simpa [ms_bl] using this
theorem bl_append (s t : ByteArray) : bl (s ++ t) = bl s ++ bl t := by simp [bl]
theorem bl_mk (l : List UInt8) : bl ⟨l.toArray⟩ = l := rfl
theorem bl_extract (s : ByteArray) (a b : Nat) : bl (s.extract a b) = ((bl s).drop a).take (b - a) := by
  simp [bl, ByteArray.data_extract, List.extract_eq_take_drop]
@[go_sem] theorem bl_toList (s : ByteArray) : s.toList = bl s := ByteArray.toList_eq s
@[go_sem] theorem ms_size (l : List UInt8) : (ms l).size = l.length := rfl
theorem bl_get (s : ByteArray) (k : Nat) (h : k < s.size) : (bl s)[k]'(by rw [bl_length]; exact h) = s[k] := rfl
theorem bl_take_succ (s : ByteArray) (k : Nat) (h : k < s.size) : (bl s).take (k + 1) = (bl s).take k ++ [s[k]] := by
  rw [List.take_succ_eq_append_getElem (by rw [bl_length]; exact h), bl_get s k h]
theorem bl_take_all (s : ByteArray) (k : Nat) (h : s.size ≤ k) : (bl s).take k = bl s := List.take_of_length_le (by rw [bl_length]; exact h)

theorem run_add {P : Program} (w : World) (s t : ByteArray) (h : s.size + t.size ≤ 9223372036854775807) : (Op.stringOp .add s t).run P w = .ok (.string (ms (bl s ++ bl t))) w := by
  rw [run_string_add_sum _ _ _ h]
  congr 2

/-- a ≤ x ≤ b. -/
def inB (x a b : Int) : Bool := decide (a ≤ x) && decide (x ≤ b)
theorem inB_true {x a b : Int} : inB x a b = true ↔ a ≤ x ∧ x ≤ b := by simp [inB]
theorem inB_false {x a b : Int} : inB x a b = false ↔ ¬ (a ≤ x ∧ x ≤ b) := by rw [← inB_true]; simp

/-- A byte is among the bytes. -/
def hasB (l : List UInt8) (b : Int) : Bool := l.any fun c => (c.toNat : Int) == b
theorem hasB_snoc (l : List UInt8) (c : UInt8) (b : Int) : hasB (l ++ [c]) b = (hasB l b || ((c.toNat : Int) == b)) := by simp [hasB]
theorem hasB_true_of_take {l : List UInt8} {k : Nat} {b : Int} (h : hasB (l.take k) b = true) : hasB l b = true := by
  simp only [hasB, List.any_eq_true] at *
  obtain ⟨x, hx, e⟩ := h
  exact ⟨x, List.mem_of_mem_take hx, e⟩

/-- Bytes that may stand in a record: 32..126, no '#'. -/
def okB (c : UInt8) : Bool := inB c.toNat 32 126 && !((c.toNat : Int) == 35)
def allB (l : List UInt8) : Bool := l.all okB
theorem allB_snoc (l : List UInt8) (c : UInt8) : allB (l ++ [c]) = (allB l && okB c) := by simp [allB]
theorem allB_false_of_take {l : List UInt8} {k : Nat} (h : allB (l.take k) = false) : allB l = false := by
  rw [← List.take_append_drop k l]
  simp only [allB, List.all_append] at *
  rw [h]; rfl
def plainB (l : List UInt8) (most : Int) : Bool := allB l && decide ((l.length : Int) ≤ most)
/-- Bytes in 32..126. -/
def seenB (l : List UInt8) : Bool := l.all fun c => inB c.toNat 32 126
theorem seenB_snoc (l : List UInt8) (c : UInt8) : seenB (l ++ [c]) = (seenB l && inB c.toNat 32 126) := by simp [seenB]
theorem seenB_false_of_take {l : List UInt8} {k : Nat} (h : seenB (l.take k) = false) : seenB l = false := by
  rw [← List.take_append_drop k l]
  simp only [seenB, List.all_append] at *
  rw [h]; rfl

theorem ret_int {k : IntKind} {a b : Int} (h : a = b) : Ending.returned (.int k a) = .returned (.int k b) := by rw [h]
theorem ret_bool {a b : Bool} (h : a = b) : Ending.returned (.bool a) = .returned (.bool b) := by rw [h]

theorem bcell {W w1 : World} (hb : RowKit.Below W.heap.size W w1) : (∀ b o, b < W.heap.size → w1.cell? ⟨b, o, none⟩ = W.cell? ⟨b, o, none⟩) ∧ (∀ b o, b < W.heap.size → w1.frozen? ⟨b, o, none⟩ = W.frozen? ⟨b, o, none⟩) :=
  ⟨fun b o h => hb.cell (p := ⟨b, o, none⟩) h, fun b o h => hb.frozen (p := ⟨b, o, none⟩) h⟩
theorem bb (W : World) : RowKit.Below W.heap.size W W := RowKit.Below.refl _ _
theorem bal {W w : World} (h : RowKit.Below W.heap.size W w) (o : Obj) : RowKit.Below W.heap.size W (w.alloc o) := h.alloc h.size o
theorem bst {W w : World} (h : RowKit.Below W.heap.size W w) {p : Addr} (hp : W.heap.size ≤ p.block) (u : Value) : RowKit.Below W.heap.size W (w.setCell p u) := h.setCell hp u
theorem btr {W w w' : World} (h : RowKit.Below W.heap.size W w) (h' : RowKit.Below w.heap.size w w') : RowKit.Below W.heap.size W w' := h.trans (h'.mono h.size)
theorem bdr {W w : World} (h : RowKit.Below W.heap.size W w) : RowKit.Below W.heap.size W w.drew := h.drew
/-- What a step of a region does to the lists that it carries: one name for all the rules. -/
theorem put_rules : (∀ (l : List Oper) (i : Nat) (h : i < l.toArray.size), l.toArray[i]'h = l[i]'(by simpa using h)) ∧ (∀ (o : Oper) (l : List Oper) (h : 0 < (o :: l).length), (o :: l)[0]'h = o) ∧ (∀ (o : Oper) (l : List Oper) (n : Nat) (h : n + 1 < (o :: l).length), (o :: l)[n + 1]'h = l[n]'(Nat.lt_of_succ_lt_succ h)) ∧ (∀ (a : Act) (d : Tmp) (v : Value), a.put (some d) v = { a with tmps := a.tmps.setIfInBounds d v }) ∧ (∀ (a : Act) (v : Value), a.put none v = a) ∧ (∀ (l : List Bool) (i : Nat) (b : Bool), l.toArray.setIfInBounds i b = (l.set i b).toArray) ∧ (∀ (l : List Value) (i : Nat) (b : Value), l.toArray.setIfInBounds i b = (l.set i b).toArray) ∧
    (∀ (a b : Bool) (l : List Bool), (a :: l).set 0 b = b :: l) ∧ (∀ (a b : Value) (l : List Value), (a :: l).set 0 b = b :: l) ∧
    (∀ (a b : Bool) (l : List Bool) (n : Nat), (a :: l).set (n + 1) b = a :: l.set n b) ∧ (∀ (a b : Value) (l : List Value) (n : Nat), (a :: l).set (n + 1) b = a :: l.set n b) :=
  ⟨fun _ _ _ => rfl, fun _ _ _ => rfl, fun _ _ _ _ => rfl, fun _ _ _ => rfl, fun _ _ => rfl, fun _ _ _ => List.setIfInBounds_toArray .., fun _ _ _ => List.setIfInBounds_toArray .., fun _ _ _ => rfl, fun _ _ _ => rfl, fun _ _ _ _ => rfl, fun _ _ _ _ => rfl⟩
end Go.Proofs.Ytcdgpekefiplnaa
