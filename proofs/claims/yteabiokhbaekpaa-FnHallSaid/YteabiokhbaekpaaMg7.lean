/- Lemmas and contracts for a law, put together out of several texts: DgG DgM DgS DgI DgJ DgN DgO DgP DgQ DgR DgT CtM CtN CtT CuA PoolB PlB NumT TxA TxB TxC TxD TxE TxF CyA CyB CyC CyD CuB CuE CuF HlA HlO. -/
import Derived.Test.YteabiokhbaekpaaMg6
import Derived.Test.YteabiokhbaekpaaMg3
import Derived.Shelf.Abstract
import Derived.Test.YteabiokhbaekpaaMg2
import Derived.Deep.DeepCutAuto
import Derived.Deep.CutBlock
import Derived.Test.YteabiokhbaekpaaMg1
import Derived.Test.YteabiokhbaekpaaMg4
import Derived.Lib.QuietBelow
import Derived.BigQuiet
import Derived.Test.YteabiokhbaekpaaMg5
/- Memory: own rows of truth values, stores into own rows, diagrams that can be read. -/
namespace Go.Proofs.Yteabiokhbaekpaa
open Go.RowKit

/-- Truth values. -/
def blV (n : Nat) (f : Nat → Bool) : List Value := (List.range n).map fun j => .bool (f j)
def BlAt (w : World) (A : Option Addr) (n : Nat) (f : Nat → Bool) : Prop := ∀ j, j < n → ∃ b off, A = some ⟨b, off, none⟩ ∧ w.cell? ⟨b, off + j, none⟩ = some (.bool (f j))
theorem blV_len (n : Nat) (f : Nat → Bool) : (blV n f).length = n := by simp [blV]
theorem blV_snoc (n : Nat) (f : Nat → Bool) : blV (n + 1) f = blV n f ++ [.bool (f n)] := by simp [blV, List.range_succ]
theorem blV_get {n j : Nat} (f : Nat → Bool) (h : j < n) : (blV n f)[j]? = some (.bool (f j)) := by simp [blV, h]
theorem blV_congr {n : Nat} {f g : Nat → Bool} (h : ∀ j, j < n → f j = g j) : blV n f = blV n g := by
  unfold blV
  exact List.map_congr_left fun j hj => by rw [h j (List.mem_range.1 hj)]
theorem blV_set {n k : Nat} (f : Nat → Bool) (x : Bool) : (blV n f).set k (.bool x) = blV n (fun j => if j = k then x else f j) := by
  apply List.ext_getElem?
  intro j
  rw [List.getElem?_set, blV_len]
  by_cases hj : j < n
  · rw [blV_get _ hj, blV_get _ hj]
    by_cases h : k = j
    · subst h; simp [hj]
    · rw [if_neg h, if_neg (fun e => h e.symm)]
  · rw [List.getElem?_eq_none (by rw [blV_len]; omega), List.getElem?_eq_none (by rw [blV_len]; omega)]
    split
    · rw [if_neg (by omega)]
    · rfl
theorem BlAt.grow {w w' : World} {A : Option Addr} {n : Nat} {f : Nat → Bool} (h : BlAt w A n f) (hb : Below w.heap.size w w') : BlAt w' A n f := fun j hj => by
  obtain ⟨b, off, e, hc⟩ := h j hj
  exact ⟨b, off, e, (bcell hb).1 b _ (World.block_lt_of_cell? _ _ hc) ▸ hc⟩
theorem bl_own {w : World} {B : Nat} {e : TypeId} {v : Value} {n : Nat} {f : Nat → Bool} (h : w.ownsRow B e 1 v n (blV n f)) : ∃ A c, v = .slice A n c ∧ BlAt w A n f := by
  rcases Nat.eq_zero_or_pos n with rfl | hn
  · obtain ⟨a, c, rfl⟩ := own_slice h
    exact ⟨a, c, rfl, fun j hj => absurd hj (by omega)⟩
  · obtain ⟨g, cap, cur, rfl, _, hh, _, _, _, ht⟩ := own_block h hn
    exact ⟨_, cap, rfl, fun j hj => ⟨g, 0, rfl, by rw [Nat.zero_add, hown_cell hh ht (by omega), blV_get f hj]⟩⟩
theorem infoBl : (Try.prog.info? 4).map (fun i => (i.zero, i.size, i.bytes)) = some (some (.bool false), 1, 1) := by kernel_rfl
/-- Two results: a diagram, and whether there is one. -/
def DgTold (w : World) (ok : Bool) (r : Int) (ns : List Nd) (e : Ending) (w' : World) : Prop := ∃ A c, e = .returned (.tuple #[dgV r (.slice A ns.length c), .bool ok]) ∧ NdAt w' A ns ∧ (∀ a, A = some a → w.heap.size ≤ a.block) ∧ Below w.heap.size w w'
def outR (ok : Bool) (vars : Int) (f : Nat → Bool) : Int := if ok then dgR vars.toNat f else 0
def outN (ok : Bool) (vars : Int) (f : Nat → Bool) : List Nd := if ok then dgN vars.toNat f else []
theorem NdAt.nil (w : World) : NdAt w none [] := ⟨fun j hj => absurd hj (by simp), by simp⟩
/-- What is known of a valid diagram. -/
theorem good_parts {vars r : Int} {ns : List Nd} (h : goodD vars r ns = true) : (0 ≤ vars ∧ vars ≤ 6) ∧ ns.length ≤ 63 ∧ (0 ≤ r ∧ r ≤ ns.length + 1) ∧ WkN ns := by
  unfold goodD at h
  rw [Bool.and_eq_true, Bool.and_eq_true, Bool.and_eq_true, inB_def, inB_def, decide_eq_true_eq, ndsB_ok] at h
  exact ⟨h.1.1.1, h.1.1.2, h.1.2, OkN.wk h.2⟩
end Go.Proofs.Yteabiokhbaekpaa

/- Contracts: valid diagrams, in the reference. -/
namespace Go.Proofs.Yteabiokhbaekpaa
open Go.RowKit

theorem under_node {ns : List Nd} {m : Nat} (hm : m < ns.length) {lo : Int} (h : lo = (m : Int) + 2) (v : Int) : under ns v lo = decide (v < ns[m].v) := by
  unfold under
  rw [decide_eq_false (by omega), List.getD_eq_getElem?_getD, show (lo - 2).toNat = m by omega, List.getElem?_eq_getElem hm]
  rfl
theorem under_low {ns : List Nd} {lo : Int} (h : lo < 2) (v : Int) : under ns v lo = true := by
  unfold under
  rw [decide_eq_true h]; rfl
theorem NdAt.var {w : World} {b off : Nat} {ns : List Nd} (h : NdAt w (some ⟨b, off, none⟩) ns) {m : Nat} (hm : m < ns.length) : w.cell? ⟨b, off + m * 3, none⟩ = some (.int .i64 ns[m].v) := by
  obtain ⟨b', off', e, h1, _⟩ := h.at_ m hm
  cases e
  exact h1
theorem nds_no' {vars : Int} {ns : List Nd} {k : Nat} (hk : k < ns.length) (h : ndB vars ns k = false) : ndsB vars ns ns.length = false := by
  cases hh : ndsB vars ns ns.length
  · rfl
  · have := ndsB_ok.1 hh k hk
    rw [h] at this; cases this
theorem goodD_def' (vars r : Int) (ns : List Nd) : goodD vars r ns = (inB vars 0 6 && decide (ns.length ≤ 63) && inB r 0 (ns.length + 1) && ndsB vars ns ns.length) := rfl
theorem ndB_eq {vars : Int} {ns : List Nd} {i : Nat} (hi : i < ns.length) {v lo hi' : Int} (h : ns[i] = ⟨v, lo, hi'⟩) : ndB vars ns i = (inB v 1 vars && inB lo 0 (i + 1) && inB hi' 0 (i + 1) && under ns v lo && under ns v hi') := by
  unfold ndB
  rw [List.getD_eq_getElem?_getD, List.getElem?_eq_getElem hi, h]
  rfl
theorem NdAt.ok_at {w : World} {A : Option Addr} {ns : List Nd} (h : NdAt w A ns) {m : Nat} (hm : m < ns.length) : ndOk ns[m] := h.ok _ (List.getElem_mem hm)
/- left out: the seat has no spec.l26Vars -/

/- left out: the seat has no spec.l26Good -/
end Go.Proofs.Yteabiokhbaekpaa

/- Contracts: numbers of variables and literals that are drawn. -/
namespace Go.Proofs.Yteabiokhbaekpaa
open Go.RowKit

/- left out: the seat has no (*loop.example/g01080/spec.l1Cur).vars26 -/

theorem lit_three {w1 : World} {vars : Int} {g A cl cc : Nat} {ca : Option Addr} (h : CurIs A g ca cl cc w1) (hv : -1 ≤ vars ∧ vars ≤ 7) (hA : A ≤ 80000000) :
    Calls Try.prog 55 #[.pointer (some ⟨g, 0, none⟩), .slice (some ⟨w1.heap.size, 0, none⟩) 3 3] (w1.alloc (.cells #[.int .i64 0, .int .i64 (vars + 1), .int .i64 (-vars - 1)] 3)) (CurPost (IntIn (-8) 8) (A + 2) g ca cl cc (w1.alloc (.cells #[.int .i64 0, .int .i64 (vars + 1), .int .i64 (-vars - 1)] 3))) := by
  have hg := h.lt
  refine cur_among (-8) 8 w1.heap.size 0 3 3 A g ca cl cc _ (h.grow (bal (bb _) _)) (by omega) (by decide) (by decide) (ints_new rfl fun j hj => ?_) (by omega)
  match j, hj with
  | 0, _ => exact ⟨_, rfl, by decide, by decide⟩
  | 1, _ => exact ⟨_, rfl, by omega, by omega⟩
  | 2, _ => exact ⟨_, rfl, by omega, by omega⟩

/- left out: the seat has no (*loop.example/g01080/spec.l1Cur).lit -/
end Go.Proofs.Yteabiokhbaekpaa

/- Contracts: the and, or and not of diagrams, in the program. -/
namespace Go.Proofs.Yteabiokhbaekpaa
open Go.RowKit

/- left out: the seat has no impl.pairDiagram$1 -/

/- left out: the seat has no impl.pairDiagram -/
end Go.Proofs.Yteabiokhbaekpaa

/- Contracts: bits that are set, in the program. -/
namespace Go.Proofs.Yteabiokhbaekpaa
open Go.RowKit

theorem set_fin : ∀ b < 64, ∀ k < 6, bits .andNot .i64 ((b : Nat) : Int) ((2 ^ k : Nat) : Int) = ((b - (if b.testBit k then 2 ^ k else 0) : Nat) : Int) := by decide +kernel
/-- Bits in which the variable of a literal is set such that the literal is true. -/
def setL (b : Nat) (l : Int) : Nat := if 0 < l then b ||| 2 ^ (l.toNat - 1) else b - (if b.testBit ((-l).toNat - 1) then 2 ^ ((-l).toNat - 1) else 0)
theorem or_set {b : Nat} {l : Int} (hb : b < 64) (h0 : 0 < l) (h1 : l ≤ 6) : bits .or .i64 (b : Int) (wrap64 (2 ^ (l.toNat - 1))) = ((setL b l : Nat) : Int) := by
  obtain ⟨e1, e2⟩ := pow_small (v := l.toNat - 1) (by omega)
  rw [e1, (i64_nat b (2 ^ (l.toNat - 1)) (by omega) (by omega)).1, setL, if_pos h0]
theorem clr_set {b : Nat} {l : Int} (hb : b < 64) (h0 : l < 0) (h1 : -6 ≤ l) : bits .andNot .i64 (b : Int) (wrap64 (2 ^ ((-l).toNat - 1))) = ((setL b l : Nat) : Int) := by
  obtain ⟨e1, e2⟩ := pow_small (v := (-l).toNat - 1) (by omega)
  rw [e1, set_fin b hb ((-l).toNat - 1) (by omega), setL, if_neg (show ¬ 0 < l by omega)]
theorem setL_lt {b vars : Nat} {l : Int} (hb : b < 2 ^ vars) (_ : l ≠ 0) (_ : -(vars : Int) ≤ l) (_ : l ≤ vars) : setL b l < 2 ^ vars := by
  unfold setL
  split
  · exact Nat.or_lt_two_pow hb (Nat.pow_lt_pow_right (by decide) (by omega))
  · omega

/- left out: the seat has no impl.setBit -/

def litD (vars l : Int) : Bool := decide (l ≠ 0) && inB l (-vars) vars
set_option maxRecDepth 100000 in
theorem isLiteralD_any (vars l : Int) (h0 : 0 ≤ vars) (h1 : vars ≤ 1000000) (w : World) : Calls Try.prog 49 #[.int .i64 vars, .int .i64 l] w fun e w' => e = .returned (.bool (litD vars l)) ∧ Below w.heap.size w w' := by
  have hw1 : IntKind.i64.wrap (-vars) = -vars := IntWalk.i64_in _ (by omega)
  by_cases hl : l = 0
  · have hF : Hid (litD vars l = false) := by unfold Hid litD; rw [decide_eq_false (by omega)]; rfl
    go_enter Try.func49, Try.ntmps49
    go_wp2_with fail
    go_ret
    exact ⟨ret_bool hF.out.symm, bb _⟩
  · have hF : Hid (litD vars l = inB l (-vars) vars) := by unfold Hid litD; rw [decide_eq_true hl]; rfl
    go_enter Try.func49, Try.ntmps49
    go_wp2_with (go_at_call 28; refine (within_any _ _ _ _).mono ?_; rintro e w1 ⟨rfl, rfl⟩)
    go_ret
    exact ⟨ret_bool (by rw [hF.out]; simp [hl]), bb _⟩

/- left out: the seat has no impl.SetInDiagram$1 -/

/- left out: the seat has no impl.ForgetInDiagram$1 -/
end Go.Proofs.Yteabiokhbaekpaa

/- Contracts: the values of a diagram, in the reference. -/
namespace Go.Proofs.Yteabiokhbaekpaa
open Go.RowKit

/- left out: the seat has no spec.l26Values -/

theorem pow_wrap {v : Nat} (hv : v ≤ 6) : IntKind.i64.wrap ((2 : Int) ^ v) = ((2 ^ v : Nat) : Int) := by
  match v, hv with
  | 0, _ | 1, _ | 2, _ | 3, _ | 4, _ | 5, _ | 6, _ => decide

/- left out: the seat has no spec.l2Var -/

/- left out: the seat has no spec.l26Set -/
end Go.Proofs.Yteabiokhbaekpaa

/- Contracts: the plan of values, in the reference. -/
namespace Go.Proofs.Yteabiokhbaekpaa
open Go.RowKit

/- left out: the seat has no impl.BddNode -/

/- left out: the seat has no spec.l26Plan -/
end Go.Proofs.Yteabiokhbaekpaa

/- Contracts: the reduced diagram of values, a literal that is set, in the reference. -/
namespace Go.Proofs.Yteabiokhbaekpaa
open Go.RowKit

/- left out: the seat has no spec.l26Of -/

/- left out: the seat has no spec.SetInDiagram -/
end Go.Proofs.Yteabiokhbaekpaa

/- Contracts: and, or, forget of diagrams, in the reference. -/
namespace Go.Proofs.Yteabiokhbaekpaa
open Go.RowKit

def opB (q x y : Bool) : Bool := if q then x && y else x || y
def upto (k : Nat) (g f : Nat → Bool) (j : Nat) : Bool := if j < k then g j else f j
theorem upto_zero (N : Nat) (g f : Nat → Bool) : blV N (upto 0 g f) = blV N f := blV_congr fun j _ => by simp [upto]
theorem upto_all (N : Nat) (g f : Nat → Bool) : blV N (upto N g f) = blV N g := blV_congr fun j hj => by simp [upto, hj]
theorem upto_set (N k : Nat) (g f : Nat → Bool) : (blV N (upto k g f)).set k (.bool (g k)) = blV N (upto (k + 1) g f) := by
  rw [blV_set]
  refine blV_congr fun j _ => ?_
  unfold upto
  by_cases h : j = k
  · subst h; simp
  · rw [if_neg h]
    by_cases h2 : j < k
    · rw [if_pos h2, if_pos (by omega)]
    · rw [if_neg h2, if_neg (by omega)]
theorem upto_at (k : Nat) (g f : Nat → Bool) : upto k g f k = f k := by simp [upto]

/- left out: the seat has no spec.l26Two -/
end Go.Proofs.Yteabiokhbaekpaa

/- Contracts: and, or, forget of diagrams, in the reference; the comparison. -/
namespace Go.Proofs.Yteabiokhbaekpaa
open Go.RowKit

/- left out: the seat has no spec.AndDiagrams -/

/- left out: the seat has no spec.OrDiagrams -/

/- left out: the seat has no spec.ForgetInDiagram -/

/- left out: the seat has no laws.vDiagram -/
end Go.Proofs.Yteabiokhbaekpaa

/- Contracts: diagrams that are drawn. -/
namespace Go.Proofs.Yteabiokhbaekpaa
open Go.RowKit

/-- Nodes as they are drawn. -/
def DrOk (ns : List Nd) : Prop := ∀ i (h : i < ns.length), (1 ≤ ns[i].v ∧ ns[i].v ≤ 6) ∧ (0 ≤ ns[i].lo ∧ ns[i].lo ≤ i + 1) ∧ (0 ≤ ns[i].hi ∧ ns[i].hi ≤ i + 1)
theorem DrOk.wk {ns : List Nd} (h : DrOk ns) : WkN ns := fun i hi => ⟨(h i hi).1.1, (h i hi).2⟩
theorem DrOk.small {ns : List Nd} (h : DrOk ns) (hl : ns.length ≤ 1000) : ∀ x ∈ ns, ndOk x := by
  intro x hx
  obtain ⟨i, hi, rfl⟩ := List.getElem_of_mem hx
  obtain ⟨h1, h2, h3⟩ := h i hi
  unfold ndOk I64
  omega
theorem DrOk.snoc {ns : List Nd} {n : Nd} (h : DrOk ns) (hv : 1 ≤ n.v ∧ n.v ≤ 6) (hl : 0 ≤ n.lo ∧ n.lo ≤ ns.length + 1) (hh : 0 ≤ n.hi ∧ n.hi ≤ ns.length + 1) : DrOk (ns ++ [n]) := by
  intro i hi
  rw [List.length_append, List.length_singleton] at hi
  by_cases hlt : i < ns.length
  · rw [List.getElem_append_left hlt]; exact h i hlt
  · obtain rfl : i = ns.length := by omega
    simp only [List.getElem_concat_length]
    exact ⟨hv, hl, hh⟩
theorem dg_dr {n : Nat} (hn : n ≤ 6) (f : Nat → Bool) : DrOk (dgN n f) := fun i hi => by
  obtain ⟨h1, h2, h3, _⟩ := (ndB_get hi).1 ((dg_made n f).ok i hi)
  exact ⟨⟨h1.1, by omega⟩, h2, h3⟩

/-- A diagram that is drawn. -/
def DrawPost (A g : Nat) (ca : Option Addr) (cl cc : Nat) (w : World) (e : Ending) (w' : World) : Prop :=
  ∃ r ns B c, e = .returned (dgV r (.slice B ns.length c)) ∧ I64 r ∧ ns.length ≤ 64 ∧ NdAt w' B ns ∧ (∀ a, B = some a → w.heap.size ≤ a.block) ∧ CurIs A g ca cl cc w' ∧ Chg [g] w w'
/- left out: the seat has no impl.Diagram -/

/-- The length of the slice that lies in a diagram. -/
def lenAt (w : World) (b : Nat) : Nat := match w.cell? ⟨b, 1, none⟩ with | some (.slice _ n _) => n | _ => 0
theorem lenAt_of {w : World} {b n c : Nat} {B : Option Addr} (h : w.cell? ⟨b, 1, none⟩ = some (.slice B n c)) : lenAt w b = n := by simp [lenAt, h]
def mostI (a b : Int) : Int := if b < a then a else b
/- left out: the seat has no spec.l1Most -/

/- left out: the seat has no (*loop.example/g01080/spec.l1Cur).diagram -/
end Go.Proofs.Yteabiokhbaekpaa

/- Contract: at least, in the reference. -/
namespace Go.Proofs.Yteabiokhbaekpaa
open Go.RowKit

theorem most_nat {n k : Nat} : mostI 0 ((n : Int) - k + 1) = ((n + 1 - k : Nat) : Int) := by
  unfold mostI
  by_cases h : (n : Int) - k + 1 < 0
  · rw [if_pos h]; omega
  · rw [if_neg h]; omega

/- left out: the seat has no spec.AtLeastCnf -/
end Go.Proofs.Yteabiokhbaekpaa

/- Contract: a clause with its variables shifted, in the program. -/
namespace Go.Proofs.Yteabiokhbaekpaa
open Go.RowKit

/-- A literal whose variable is greater. -/
def shV (k l : Int) : Int := if 0 < l then l + k else l - k

/- left out: the seat has no impl.shifted -/
end Go.Proofs.Yteabiokhbaekpaa

/- Plain: the models of parities and of Cnfs apart. -/
namespace Go.Proofs.Yteabiokhbaekpaa
open Go.RowKit

/-- All clauses with a literal of each of some variables. -/
def sgR : List Int → List (List Int)
  | [] => [[]]
  | v :: L => (sgR L).map (v :: ·) ++ (sgR L).map (-v :: ·)
/-- The number of negative literals. -/
def ngC (c : List Int) : Nat := (c.filter fun l => decide (l < 0)).length
def xorL (L : List Int) (odd : Bool) : List (List Int) := (sgR L).filter fun c => (ngC c % 2 == 0) == odd
/-- The parity of the variables that are true. -/
def parL (L : List Int) (b : Nat) : Bool := L.foldr (fun v q => xor (b.testBit (v.natAbs - 1)) q) false
theorem parL_cons (v : Int) (L : List Int) (b : Nat) : parL (v :: L) b = xor (b.testBit (v.natAbs - 1)) (parL L b) := rfl
theorem ng_pos {v : Int} (h : 0 < v) (c : List Int) : ngC (v :: c) = ngC c := by
  unfold ngC; rw [List.filter_cons, if_neg (by simp; omega)]
theorem ng_neg {v : Int} (h : 0 < v) (c : List Int) : ngC (-v :: c) = ngC c + 1 := by
  unfold ngC; rw [List.filter_cons, if_pos (by simp; omega)]; rfl
theorem litX_pos {v : Int} (h : 0 < v) (b : Nat) : litT b v = b.testBit (v.natAbs - 1) := by
  unfold litT; rw [show decide (0 < v) = true from decide_eq_true h]; simp
theorem litX_neg {v : Int} (h : 0 < v) (b : Nat) : litT b (-v) = !(b.testBit (v.natAbs - 1)) := by
  unfold litT; rw [show decide (0 < -v) = false from decide_eq_false (by omega), Int.natAbs_neg]; simp
theorem odd_next (n : Nat) : ((n + 1) % 2 == 0) = !(n % 2 == 0) := by
  rcases Nat.mod_two_eq_zero_or_one n with h | h
  · rw [show (n + 1) % 2 = 1 by omega, h]; rfl
  · rw [show (n + 1) % 2 = 0 by omega, h]; rfl
theorem xor_all : ∀ {L : List Int}, (∀ v ∈ L, 0 < v) → ∀ (odd : Bool) (b : Nat), (∀ c ∈ sgR L, ((ngC c % 2 == 0) == odd) = true → clT c b = true) ↔ parL L b = odd
  | [], _, odd, b => by
    simp only [sgR, List.mem_singleton, forall_eq, ngC, clT, parL]
    cases odd <;> simp
  | v :: L, h, odd, b => by
    have ih := fun q => xor_all (L := L) (fun x hx => h x (List.mem_cons_of_mem _ hx)) q b
    have hv := h v List.mem_cons_self
    have e : (∀ c ∈ sgR (v :: L), ((ngC c % 2 == 0) == odd) = true → clT c b = true) ↔ (∀ c ∈ sgR L, ((ngC c % 2 == 0) == odd) = true → clT (v :: c) b = true) ∧ (∀ c ∈ sgR L, ((ngC (-v :: c) % 2 == 0) == odd) = true → clT (-v :: c) b = true) := by
      rw [show sgR (v :: L) = (sgR L).map (v :: ·) ++ (sgR L).map (-v :: ·) from rfl]
      constructor
      · intro h2
        refine ⟨fun c hc hp => h2 _ (List.mem_append.2 (.inl (List.mem_map.2 ⟨c, hc, rfl⟩))) (by rw [ng_pos hv]; exact hp), fun c hc hp => h2 _ (List.mem_append.2 (.inr (List.mem_map.2 ⟨c, hc, rfl⟩))) hp⟩
      · rintro ⟨h2, h3⟩ c hc hp
        rcases List.mem_append.1 hc with hc | hc
        · obtain ⟨d, hd, rfl⟩ := List.mem_map.1 hc
          exact h2 d hd (by rw [ng_pos hv] at hp; exact hp)
        · obtain ⟨d, hd, rfl⟩ := List.mem_map.1 hc
          exact h3 d hd hp
    have hc1 : ∀ c, clT (v :: c) b = (b.testBit (v.natAbs - 1) || clT c b) := fun c => by unfold clT; rw [List.any_cons, litX_pos hv]
    have hc2 : ∀ c, clT (-v :: c) b = (!(b.testBit (v.natAbs - 1)) || clT c b) := fun c => by unfold clT; rw [List.any_cons, litX_neg hv]
    rw [e, parL_cons]
    cases hb : b.testBit (v.natAbs - 1)
    · simp only [hc1, hc2, hb, Bool.false_or, Bool.not_false, Bool.true_or, implies_true, and_true, Bool.false_xor]
      exact ih odd
    · simp only [hc1, hc2, hb, Bool.false_or, Bool.not_true, Bool.true_or, implies_true, true_and, Bool.true_xor, ng_neg hv, odd_next]
      have e2 : ∀ c : List Int, ((!(ngC c % 2 == 0)) == odd) = ((ngC c % 2 == 0) == !odd) := fun c => by cases (ngC c % 2 == 0) <;> cases odd <;> rfl
      simp only [e2]
      rw [ih (!odd)]
      cases parL L b <;> cases odd <;> simp
theorem mod_xor {L : List Int} (h : ∀ v ∈ L, 0 < v) (odd : Bool) (b : Nat) : modT (xorL L odd) b = (parL L b == odd) := by
  rw [Bool.eq_iff_iff, beq_iff_eq, ← xor_all h]
  unfold modT xorL
  rw [List.all_eq_true]
  constructor
  · intro h2 c hc hp; exact h2 c (List.mem_filter.2 ⟨hc, hp⟩)
  · intro h2 c hc
    obtain ⟨h3, h4⟩ := List.mem_filter.1 hc
    exact h2 c h3 h4
theorem par_low {n : Nat} : ∀ {L : List Int}, (∀ v ∈ L, 1 ≤ v ∧ v ≤ (n : Int) + 1) → L.Nodup → ∀ {b : Nat}, b < 2 ^ n → parL L (2 ^ n + b) = xor (parL L b) (decide ((n : Int) + 1 ∈ L))
  | [], _, _, b, _ => by simp [parL]
  | v :: L, h, hn, b, hb => by
    rw [List.nodup_cons] at hn
    have ih := par_low (L := L) (fun x hx => h x (List.mem_cons_of_mem _ hx)) hn.2 hb
    have hv := h v List.mem_cons_self
    rw [parL_cons, parL_cons, ih]
    by_cases e : v = (n : Int) + 1
    · have h1 : (2 ^ n + b).testBit (v.natAbs - 1) = true := by
        rw [show v.natAbs - 1 = n by omega, Nat.testBit_two_pow_add_eq, Nat.testBit_lt_two_pow hb]; rfl
      have h2 : b.testBit (v.natAbs - 1) = false := by rw [show v.natAbs - 1 = n by omega, Nat.testBit_lt_two_pow hb]
      have h3 : decide ((n : Int) + 1 ∈ L) = false := decide_eq_false (by rw [← e]; exact hn.1)
      have h4 : decide ((n : Int) + 1 ∈ v :: L) = true := decide_eq_true (by rw [e]; exact List.mem_cons_self)
      rw [h1, h2, h3, h4]
      cases parL L b <;> rfl
    · have h1 : (2 ^ n + b).testBit (v.natAbs - 1) = b.testBit (v.natAbs - 1) := Nat.testBit_two_pow_add_gt (by omega) _
      have h4 : decide ((n : Int) + 1 ∈ v :: L) = decide ((n : Int) + 1 ∈ L) := by
        simp only [List.mem_cons, show ((n : Int) + 1 = v) = False from eq_false (fun h => e h.symm), false_or]
      rw [h1, h4]
      cases b.testBit (v.natAbs - 1) <;> cases parL L b <;> cases decide ((n : Int) + 1 ∈ L) <;> rfl
theorem cntW_not (p : Nat → Bool) : ∀ N, cntP p N + cntP (fun b => !(p b)) N = N
  | 0 => by simp [cntP]
  | N + 1 => by
    have ih := cntW_not p N
    cases e : p N
    · rw [cntP_no e, cntP_yes (p := fun b => !(p b)) (by simp [e])]; omega
    · rw [cntP_yes e, cntP_no (p := fun b => !(p b)) (by simp [e])]; omega
/-- Half of the assignments have a parity. -/
theorem par_half : ∀ (n : Nat) {L : List Int}, L ≠ [] → (∀ v ∈ L, 1 ≤ v ∧ v ≤ (n : Int)) → L.Nodup → ∀ odd, 2 * cntP (fun b => parL L b == odd) (2 ^ n) = 2 ^ n
  | 0, L, hne, h, _, odd => by
    obtain ⟨v, hv⟩ := List.exists_mem_of_ne_nil L hne
    have := h v hv; omega
  | n + 1, L, hne, h, hn, odd => by
    have hp : 2 ^ (n + 1) = 2 ^ n + 2 ^ n := by rw [Nat.pow_succ]; omega
    rw [hp, cnt_split]
    have hr : ∀ v ∈ L, 1 ≤ v ∧ v ≤ (n : Int) + 1 := fun v hv => by have := h v hv; omega
    have hc := cntW_congr (p := fun i => parL L (2 ^ n + i) == odd) (q := fun b => xor (parL L b) (decide ((n : Int) + 1 ∈ L)) == odd) (N := 2 ^ n) (fun b hb => by rw [par_low hr hn hb])
    rw [hc]
    by_cases e : (n : Int) + 1 ∈ L
    · have h2 := cntW_congr (p := fun b => xor (parL L b) (decide ((n : Int) + 1 ∈ L)) == odd) (q := fun b => !(parL L b == odd)) (N := 2 ^ n) (fun b _ => by
        rw [decide_eq_true e]; cases parL L b <;> cases odd <;> rfl)
      rw [h2, cntW_not]; omega
    · have h2 := cntW_congr (p := fun b => xor (parL L b) (decide ((n : Int) + 1 ∈ L)) == odd) (q := fun b => parL L b == odd) (N := 2 ^ n) (fun b _ => by
        rw [decide_eq_false e]; cases parL L b <;> cases odd <;> rfl)
      have ih := par_half n hne (fun v hv => ⟨(hr v hv).1, by
        have h3 := (hr v hv).2
        have h4 : v ≠ (n : Int) + 1 := fun e2 => e (e2 ▸ hv)
        omega⟩) hn odd
      rw [h2]; omega
/-- The clauses of g with greater variables. -/
theorem litT_high {k : Nat} {l : Int} (h0 : l ≠ 0) (a b : Nat) (ha : a < 2 ^ k) : litT (2 ^ k * b + a) (if 0 < l then l + k else l - k) = litT b l := by
  unfold litT
  have h1 : ∀ j, (2 ^ k * b + a).testBit (k + j) = b.testBit j := fun j => by
    rw [Nat.testBit_two_pow_mul_add b ha, if_neg (by omega)]
    congr 1; omega
  split
  · rename_i h
    rw [show (l + k).natAbs - 1 = k + (l.natAbs - 1) by omega, h1, decide_eq_true h, decide_eq_true (show 0 < l + k by omega)]
  · rename_i h
    rw [show (l - k).natAbs - 1 = k + (l.natAbs - 1) by omega, h1, decide_eq_false h, decide_eq_false (show ¬ 0 < l - k by omega)]
theorem litT_low {k : Nat} {l : Int} (h0 : l ≠ 0) (h1 : l.natAbs ≤ k) (a b : Nat) (ha : a < 2 ^ k) : litT (2 ^ k * b + a) l = litT a l := by
  unfold litT
  rw [Nat.testBit_two_pow_mul_add b ha, if_pos (by omega)]
theorem cnt_apart (p q : Nat → Bool) (K : Nat) : ∀ N, cntP (fun i => q (i % K) && p (i / K)) (K * N) = cntP q K * cntP p N
  | 0 => by simp [cntP]
  | N + 1 => by
    have ih := cnt_apart p q K N
    rw [Nat.mul_succ, cnt_split, ih]
    have e : cntP (fun i => q ((K * N + i) % K) && p ((K * N + i) / K)) K = cntP (fun i => q i && p N) K := cntW_congr fun b hb => by
      rw [Nat.mul_add_mod, Nat.mod_eq_of_lt hb, Nat.mul_add_div (by omega), Nat.div_eq_of_lt hb, Nat.add_zero]
    rw [e]
    cases h : p N
    · have : cntP (fun i => q i && false) K = 0 := by simp [cntP]
      rw [cntP_no h, this]; omega
    · have : cntP (fun i => q i && true) K = cntP q K := by simp
      rw [cntP_yes h, this, Nat.mul_succ]
theorem any_congr {α : Type} {p q : α → Bool} : ∀ {l : List α}, (∀ x ∈ l, p x = q x) → l.any p = l.any q
  | [], _ => rfl
  | x :: l, h => by rw [List.any_cons, List.any_cons, h x List.mem_cons_self, any_congr fun y hy => h y (List.mem_cons_of_mem _ hy)]
theorem mod_apart {k : Nat} {xss yss : List (List Int)} (hx : ∀ c ∈ xss, ∀ l ∈ c, l ≠ 0 ∧ l.natAbs ≤ k) (hy : ∀ c ∈ yss, ∀ l ∈ c, l ≠ 0) (i : Nat) : modT (xss ++ yss.map fun c => c.map (shV k)) i = (modT xss (i % 2 ^ k) && modT yss (i / 2 ^ k)) := by
  have hlt : i % 2 ^ k < 2 ^ k := Nat.mod_lt _ (Nat.two_pow_pos k)
  have hi : 2 ^ k * (i / 2 ^ k) + i % 2 ^ k = i := Nat.div_add_mod i (2 ^ k)
  unfold modT
  rw [List.all_append, List.all_map]
  congr 1
  · rw [Bool.eq_iff_iff, List.all_eq_true, List.all_eq_true]
    have e : ∀ c ∈ xss, clT c i = clT c (i % 2 ^ k) := fun c hc => any_congr fun l hl => by
      have h := hx c hc l hl
      conv => lhs; rw [← hi]
      exact litT_low h.1 h.2 _ _ hlt
    exact ⟨fun h c hc => by rw [← e c hc]; exact h c hc, fun h c hc => by rw [e c hc]; exact h c hc⟩
  · rw [Bool.eq_iff_iff, List.all_eq_true, List.all_eq_true]
    have e : ∀ c ∈ yss, ((fun c => clT c i) ∘ fun c => List.map (shV k) c) c = clT c (i / 2 ^ k) := fun c hc => by
      show (c.map (shV k)).any (litT i) = c.any (litT (i / 2 ^ k))
      rw [List.any_map]
      exact any_congr fun l hl => by
        have h := hy c hc l hl
        show litT i (shV k l) = _
        conv => lhs; rw [← hi]
        exact litT_high h _ _ hlt
    exact ⟨fun h c hc => by rw [← e c hc]; exact h c hc, fun h c hc => by rw [e c hc]; exact h c hc⟩
end Go.Proofs.Yteabiokhbaekpaa

/- Plain: all clauses over some variables; parities among them. -/
namespace Go.Proofs.Yteabiokhbaekpaa
open Go.RowKit

/-- The c-th clause over the first n variables of a list: the bits of c, the last one for the last variable, tell the signs. -/
def rowG (L : List Int) (n c : Nat) : List Int := (List.range n).map fun (j : Nat) => if c.testBit (n - (j + 1)) then -(L.getD j 0) else L.getD j 0
theorem rowG_len (L : List Int) (n c : Nat) : (rowG L n c).length = n := by simp [rowG]
theorem rowG_snoc (L : List Int) (n c : Nat) : rowG L (n + 1) (2 * c) = rowG L n c ++ [L.getD n 0] ∧ rowG L (n + 1) (2 * c + 1) = rowG L n c ++ [-(L.getD n 0)] := by
  unfold rowG
  rw [List.range_succ, List.map_append, List.map_append]
  have key : ∀ (d j : Nat), j < n → d / 2 = c → d.testBit (n + 1 - (j + 1)) = c.testBit (n - (j + 1)) := fun d j hj hd => by
    rw [show n + 1 - (j + 1) = (n - (j + 1)) + 1 by omega, Nat.testBit_succ, hd]
  constructor
  · congr 1
    · exact List.map_congr_left fun j hj => by rw [key (2 * c) j (List.mem_range.1 hj) (by omega)]
    · simp [Nat.testBit_zero]
  · congr 1
    · exact List.map_congr_left fun j hj => by rw [key (2 * c + 1) j (List.mem_range.1 hj) (by omega)]
    · simp [Nat.testBit_zero]
def sgnG (L : List Int) (n : Nat) : List (List Int) := (List.range (2 ^ n)).map (rowG L n)
theorem sgnG_len (L : List Int) (n : Nat) : (sgnG L n).length = 2 ^ n := by simp [sgnG]
theorem sgnG_get {L : List Int} {n c : Nat} (h : c < (sgnG L n).length) : (sgnG L n)[c] = rowG L n c := by simp [sgnG]
def sgnH (L : List Int) (n c : Nat) : List (List Int) := (List.range c).flatMap fun i => [rowG L n i ++ [L.getD n 0], rowG L n i ++ [-(L.getD n 0)]]
theorem sgnH_zero (L : List Int) (n : Nat) : sgnH L n 0 = [] := rfl
theorem sgnH_succ (L : List Int) (n c : Nat) : sgnH L n (c + 1) = sgnH L n c ++ [rowG L n c ++ [L.getD n 0], rowG L n c ++ [-(L.getD n 0)]] := by simp [sgnH, List.range_succ]
theorem sgnH_eq (L : List Int) (n : Nat) : ∀ c, sgnH L n c = (List.range (2 * c)).map (rowG L (n + 1))
  | 0 => rfl
  | c + 1 => by
    rw [sgnH_succ, sgnH_eq L n c, show 2 * (c + 1) = 2 * c + 1 + 1 by omega, List.range_succ, List.range_succ, (rowG_snoc L n c).1.symm, (rowG_snoc L n c).2.symm]
    simp
theorem sgnH_all (L : List Int) (n : Nat) : sgnH L n (2 ^ n) = sgnG L (n + 1) := by
  rw [sgnH_eq, sgnG, Nat.pow_succ, Nat.mul_comm]
theorem rowG_cons (v : Int) (L : List Int) (n c : Nat) : rowG (v :: L) (n + 1) c = (if c.testBit n then -v else v) :: rowG L n c := by
  unfold rowG
  rw [List.range_succ_eq_map, List.map_cons, List.map_map]
  congr 1
  refine List.map_congr_left fun j hj => ?_
  simp only [Function.comp, List.getD_cons_succ]
  rw [show n + 1 - (j.succ + 1) = n - (j + 1) by omega]
theorem rowG_high (L : List Int) (n c : Nat) : rowG L n (2 ^ n + c) = rowG L n c := by
  unfold rowG
  refine List.map_congr_left fun j hj => ?_
  have := List.mem_range.1 hj
  rw [Nat.testBit_two_pow_add_gt (by omega)]
theorem range_two (n : Nat) : List.range (n + n) = List.range n ++ (List.range n).map (n + ·) := List.range_add
theorem sgnG_sgR : ∀ L : List Int, sgnG L L.length = sgR L
  | [] => by simp [sgnG, rowG, sgR]
  | v :: L => by
    rw [show sgR (v :: L) = (sgR L).map (v :: ·) ++ (sgR L).map (-v :: ·) from rfl, ← sgnG_sgR L]
    unfold sgnG
    rw [List.length_cons, show 2 ^ (L.length + 1) = 2 ^ L.length + 2 ^ L.length by rw [Nat.pow_succ]; omega, range_two, List.map_append, List.map_map, List.map_map, List.map_map]
    congr 1
    · refine List.map_congr_left fun c hc => ?_
      have hc := List.mem_range.1 hc
      rw [rowG_cons, Nat.testBit_lt_two_pow hc]; rfl
    · refine List.map_congr_left fun c hc => ?_
      have hc := List.mem_range.1 hc
      simp only [Function.comp]
      rw [rowG_cons, rowG_high, Nat.testBit_two_pow_add_eq, Nat.testBit_lt_two_pow hc]; rfl
/-- The parity clauses among the first k signings. -/
def xorK (L : List Int) (odd : Bool) (k : Nat) : List (List Int) := ((List.range k).map (rowG L L.length)).filter fun c => (ngC c % 2 == 0) == odd
theorem xorK_succ (L : List Int) (odd : Bool) (k : Nat) : xorK L odd (k + 1) = if ((ngC (rowG L L.length k) % 2 == 0) == odd) = true then xorK L odd k ++ [rowG L L.length k] else xorK L odd k := by
  unfold xorK
  rw [List.range_succ, List.map_append, List.filter_append, List.map_cons, List.map_nil, List.filter_cons]
  split
  · rfl
  · simp
theorem xorK_all (L : List Int) (odd : Bool) : xorK L odd (2 ^ L.length) = xorL L odd := by
  unfold xorK xorL
  rw [← sgnG_sgR]; rfl
theorem xorK_len (L : List Int) (odd : Bool) (k : Nat) : (xorK L odd k).length ≤ k := by
  unfold xorK
  exact Nat.le_trans (List.length_filter_le _ _) (by simp)
theorem ngC_take {c : List Int} {k : Nat} (h : k < c.length) : ngC (c.take (k + 1)) = ngC (c.take k) + if c[k] < 0 then 1 else 0 := by
  unfold ngC
  rw [List.take_succ_eq_append_getElem h, List.filter_append, List.length_append, List.filter_cons]
  by_cases h2 : c[k] < 0 <;> simp [h2]
theorem ngC_le (c : List Int) : ngC c ≤ c.length := List.length_filter_le _ _
theorem rowG_ok {L : List Int} (h : ∀ x ∈ L, 1 ≤ x ∧ x ≤ 12) (n c : Nat) : ∀ y ∈ rowG L n c, -12 ≤ y ∧ y ≤ 12 := fun y hy => by
  unfold rowG at hy
  obtain ⟨j, -, rfl⟩ := List.mem_map.1 hy
  have h2 : 0 ≤ L.getD j 0 ∧ L.getD j 0 ≤ 12 := by
    rw [List.getD_eq_getElem?_getD]
    rcases Nat.lt_or_ge j L.length with hj | hj
    · rw [List.getElem?_eq_getElem hj]
      have := h _ (List.getElem_mem hj)
      exact ⟨by simp; omega, by simp; omega⟩
    · rw [List.getElem?_eq_none hj]; simp
  split <;> omega
end Go.Proofs.Yteabiokhbaekpaa

/- Memory facts: rows of numbers that are only read, and own rows that point to them. (The front of NxD, for seats without its functions: never with NxD.) -/
namespace Go.Proofs.Yteabiokhbaekpaa
open Go.RowKit

/-- Rows of numbers that are only read, with all that they reach. -/
def Pool (K : List (Value × List Int)) : Asn where
  p w F := (∀ b ∈ F, b < w.heap.size) ∧ ∀ q ∈ K, ∃ G, Ty.int.row false w q.1 q.2 G ∧ ∀ b ∈ G, b ∈ F
  lt h := h.1
  keep := by
    rintro w w' F ⟨h1, h2⟩ hk
    refine ⟨fun b hb => ?_, fun q hq => ?_⟩
    · have := hk b hb
      rw [Array.getElem?_eq_getElem (h1 b hb)] at this
      exact (Array.getElem?_eq_some_iff.1 this).1
    · obtain ⟨G, h3, h4⟩ := h2 q hq
      exact ⟨G, Ty.row_keep h3 fun b hb => hk b (h4 b hb), h4⟩
/-- An own row of numbers. -/
abbrev Ints (v : Value) (ys : List Int) : Asn := Own 3 1 v ys.length (ys.map (.int .i64))
/-- An own row of clauses, told with the values of its elements. -/
abbrev Cls (v : Value) (ks : List (Value × List Int)) : Asn := Own 26 1 v ks.length (ks.map Prod.fst)

theorem sep_frontN : ∀ {qs ps : List Asn} {w : World} {F : List Nat}, sep (qs ++ ps) w F → ∃ F1, sep qs w F1 ∧ ∀ b ∈ F1, b ∈ F
  | [], ps, w, F, _ => ⟨[], rfl, by simp⟩
  | q :: qs, ps, w, F, h => by
    obtain ⟨F1, F2, rfl, h1, h2, h3⟩ := h
    obtain ⟨F3, h4, h5⟩ := sep_frontN h3
    refine ⟨F1 ++ F3, ⟨F1, F3, rfl, fun b hb hb2 => h1 b hb (h5 b hb2), h2, h4⟩, fun b hb => ?_⟩
    rcases List.mem_append.1 hb with h | h
    · exact List.mem_append.2 (.inl h)
    · exact List.mem_append.2 (.inr (h5 b h))
/-- The parts behind are let go. -/
theorem Sp.frontN {w0 w : World} {ps qs : List Asn} (h : Sp w0 w (qs ++ ps)) : Sp w0 w qs := by
  obtain ⟨h1, G, h2, h3⟩ := h
  obtain ⟨F, h4, h5⟩ := sep_frontN h2
  exact ⟨h1, F, h4, fun b hb => h3 b (h5 b hb)⟩

section
variable {w0 w w' : World} {ps : List Asn} {i j : Nat} {q : Asn} {K ks : List (Value × List Int)} {v : Value}
theorem Sp.pool_nil (h : Sp w0 w ps) : Sp w0 w (Pool [] :: ps) := h.new (F := []) (bb _) ⟨by simp, by simp⟩ (by simp)
theorem Sp.pool_at (h : Sp w0 w ps) (hi : ps[i]? = some (Pool K)) {r : Value × List Int} (hr : r ∈ K) : ∃ G, Ty.int.row false w r.1 r.2 G := by
  obtain ⟨F, hp, _⟩ := h.get hi
  obtain ⟨G, h1, _⟩ := hp.2 r hr
  exact ⟨G, h1⟩
theorem Sp.pool_add {xs : List Int} (h : Sp w0 w ps) (hi : ps[i]? = some (Pool K)) (hb : Below w.heap.size w w') (ho : w'.ownsRow w.heap.size 3 1 v xs.length (xs.map (.int .i64))) (hI : ∀ x ∈ xs, I64 x) : Sp w0 w' (ps.set i (Pool ((v, xs) :: K))) := by
  obtain ⟨Fi, ⟨hp1, hp2⟩, hF, hall⟩ := h.upd hi
  obtain ⟨G, hr, hG, _⟩ := Ty.row_of_owns ho rfl (by decide) (Ty.all_int hI)
  have hG2 : ∀ b ∈ G, w.heap.size ≤ b := by
    rcases hG with rfl | ⟨g, h1, _, _, rfl⟩
    · simp
    · intro b hb
      obtain rfl : b = g := by simpa using hb
      exact h1
  refine hall w' _ (G ++ Fi) (.of_below hb) ⟨fun b hm => ?_, fun r hr2 => ?_⟩ fun b hm => ?_
  · rcases List.mem_append.1 hm with hm | hm
    · exact Ty.row_lt hr b hm
    · exact Nat.lt_of_lt_of_le (hp1 b hm) hb.size
  · rcases List.mem_cons.1 hr2 with rfl | hr2
    · exact ⟨G, Ty.row_down hr, fun b hb => List.mem_append.2 (.inl hb)⟩
    · obtain ⟨H, h1, h2⟩ := hp2 r hr2
      exact ⟨H, Ty.row_keep h1 fun b hm => hb.block b (hp1 b (h2 b hm)), fun b hm => List.mem_append.2 (.inr (h2 b hm))⟩
  · rcases List.mem_append.1 hm with hm | hm
    · exact .inr (hG2 b hm)
    · exact .inl hm
theorem all_pool (hp : ∀ q ∈ K, ∃ G, Ty.int.row false w q.1 q.2 G) : ∀ {ks : List (Value × List Int)}, (∀ q ∈ ks, q ∈ K) → ∃ G, (Ty.slice Ty.int).all false w (ks.map Prod.fst) (ks.map Prod.snd) G
  | [], _ => ⟨[], rfl, rfl⟩
  | r :: ks, h => by
    obtain ⟨G, hG⟩ := hp r (h r List.mem_cons_self)
    obtain ⟨H, hH⟩ := all_pool hp fun q hq => h q (List.mem_cons_of_mem _ hq)
    exact ⟨G ++ H, [r.1], ks.map Prod.fst, G, H, rfl, rfl, ⟨r.1, rfl, hG⟩, hH⟩
/-- The cells of an own row of one-cell elements. -/
theorem own_view {B : Nat} {e : TypeId} {n : Nat} {cs : List Value} (h : w.ownsRow B e 1 v n cs) : cs.length = n ∧ ((v = .slice none 0 0 ∧ n = 0 ∧ cs = []) ∨ ∃ g c, v = .slice (some ⟨g, 0, none⟩) n c ∧ n ≤ c ∧ c ≤ 9223372036854775807 ∧ ∀ j u, cs[j]? = some u → w.cell? ⟨g, j, none⟩ = some u) := by
  obtain ⟨hl, ⟨rfl, rfl⟩ | ⟨g, cap, cur, rfl, hg, hh, hn, hm, hcs, ht⟩⟩ := h
  · rw [Nat.zero_mul] at hl
    exact ⟨hl, .inl ⟨rfl, rfl, List.length_eq_zero_iff.1 hl⟩⟩
  · rw [Nat.mul_one] at hl
    refine ⟨hl, .inr ⟨g, cap, rfl, hn, by unfold maxLen at hm; omega, fun j u hj => ?_⟩⟩
    have hlt := (List.getElem?_eq_some_iff.1 hj).1
    rw [hown_cell hh ht (by omega)]; exact hj
theorem own_row_f {α : Type} {T : Ty α} {B : Nat} {e : TypeId} {xs : List α} {cs : List Value} {G : List Nat} (h : w.ownsRow B e 1 v xs.length cs) (hT : T.size = 1) (hall : T.all false w cs xs G) : ∃ F, T.row false w v xs F := by
  obtain ⟨hl, h1 | ⟨g, c, rfl, h1, h2, h3⟩⟩ := own_view h
  · obtain ⟨rfl, h0, _⟩ := h1
    obtain rfl : xs = [] := List.length_eq_zero_iff.1 h0
    exact ⟨[], Ty.row_nil _ _ _ _ _ (by decide)⟩
  · by_cases hx : xs = []
    · subst hx
      exact ⟨[], Ty.row_nil _ _ _ _ _ h2⟩
    · exact ⟨g :: G, _, c, cs, G, rfl, h1, h2, hall, .inr ⟨by omega, hx, g, 0, rfl, rfl, fun j hj => ⟨by rw [Nat.zero_add]; exact h3 j _ (List.getElem?_eq_getElem hj), fun e => by cases e⟩⟩⟩
theorem Sp.cls_row (h : Sp w0 w ps) (hi : ps[i]? = some (Cls v ks)) (hj : ps[j]? = some (Pool K)) (hk : ∀ q ∈ ks, q ∈ K) : ∃ F, (Ty.slice Ty.int).row false w v (ks.map Prod.snd) F := by
  obtain ⟨G, hG⟩ := all_pool (fun q hq => h.pool_at hj hq) hk
  have := h.own hi
  have e : (ks.map Prod.snd).length = ks.length := List.length_map _
  refine own_row_f (T := Ty.slice Ty.int) (B := 0) (e := 26) ?_ rfl hG
  rw [e]; exact this
theorem Sp.ints_row {ys : List Int} (h : Sp w0 w ps) (hi : ps[i]? = some (Ints v ys)) (hI : ∀ y ∈ ys, I64 y) : ∃ F, Ty.int.row false w v ys F := own_row_f (h.own hi) rfl (Ty.all_int hI)
end
end Go.Proofs.Yteabiokhbaekpaa

/- Plain facts: decimals, checksums, sealed strings, splitting. No program in sight. -/
namespace Go.Proofs.Yteabiokhbaekpaa

theorem decDigits_big {u : Nat} (h : ¬ u < 10) : Lib.decDigits u = Lib.decDigits (u / 10) ++ [UInt8.ofNat (48 + u % 10)] := by rw [Lib.decDigits, dif_neg h]
theorem itoa_nat (u : Nat) : Lib.itoa u = Lib.decDigits u := by simp [Lib.itoa, Int.not_lt.2 (Int.natCast_nonneg u)]
theorem itoa_neg (u : Nat) (h : 0 < u) : Lib.itoa (-(u : Int)) = 45 :: Lib.decDigits u := by
  rw [Lib.itoa, if_pos (by omega)]; congr 2; omega
theorem digit_at : ∀ k : Nat, k < 10 → (ByteArray.mk #[48, 49, 50, 51, 52, 53, 54, 55, 56, 57]).extract k (k + 1) = ms [UInt8.ofNat (48 + k)] := by
  intro k hk
  apply bl_inj
  rw [bl_extract, bl_ms]
  match k, hk with
  | 0, _ => rfl
  | 1, _ => rfl
  | 2, _ => rfl
  | 3, _ => rfl
  | 4, _ => rfl
  | 5, _ => rfl
  | 6, _ => rfl
  | 7, _ => rfl
  | 8, _ => rfl
  | 9, _ => rfl
theorem decDigits_ne (u : Nat) : Lib.decDigits u ≠ [] := by
  by_cases h : u < 10
  · rw [Lib.decDigits, dif_pos h]; simp
  · rw [decDigits_big h]; simp
theorem decDigits_len : ∀ (k u : Nat), u < 10 ^ (k + 1) → (Lib.decDigits u).length ≤ k + 1
  | 0, u, h => by rw [Lib.decDigits, dif_pos (by simpa using h)]; simp
  | k + 1, u, h => by
    by_cases h1 : u < 10
    · rw [Lib.decDigits, dif_pos h1]; simp
    · rw [decDigits_big h1, List.length_append]
      have := decDigits_len k (u / 10) (by rw [Nat.pow_succ] at h; omega)
      simp; omega
theorem decDigits_digit : ∀ (n u : Nat), u ≤ n → ∀ c ∈ Lib.decDigits u, 48 ≤ c.toNat ∧ c.toNat ≤ 57
  | n, u, hn => by
    intro c hc
    by_cases h1 : u < 10
    · rw [Lib.decDigits, dif_pos h1] at hc
      simp at hc; subst hc
      simp; omega
    · rw [decDigits_big h1] at hc
      rcases List.mem_append.1 hc with hc | hc
      · cases n with
        | zero => omega
        | succ n => exact decDigits_digit n (u / 10) (by omega) c hc
      · simp at hc; subst hc
        simp; omega
termination_by n => n

/-- The checksum. -/
def sumB (l : List UInt8) : Int := l.foldl (fun h c => (41 * h + c.toNat + 1) % 999979) 7
theorem sumB_snoc (l : List UInt8) (c : UInt8) : sumB (l ++ [c]) = (41 * sumB l + c.toNat + 1) % 999979 := by simp [sumB]
theorem sumB_nil : sumB [] = 7 := rfl
theorem sumB_range (l : List UInt8) : 0 ≤ sumB l ∧ sumB l < 999979 := by
  rcases List.eq_nil_or_concat l with rfl | ⟨l', c, rfl⟩
  · exact ⟨by decide, by decide⟩
  · rw [List.concat_eq_append, sumB_snoc]; omega
/-- The sealed string. -/
def sealB (l : List UInt8) : List UInt8 := l ++ 35 :: Lib.itoa (sumB l)
theorem itoa_len {n : Int} (h0 : 0 ≤ n) (h : n < 1000000) : (Lib.itoa n).length ≤ 6 := by
  obtain ⟨u, rfl⟩ := Int.eq_ofNat_of_zero_le h0
  rw [itoa_nat]
  exact decDigits_len 5 u (by omega)
theorem sealB_length (l : List UInt8) : (sealB l).length ≤ l.length + 7 := by
  have := sumB_range l
  have := itoa_len this.1 (by omega)
  simp [sealB]; omega
end Go.Proofs.Yteabiokhbaekpaa

/- Contract: the decimal of a number, in the reference. -/
namespace Go.Proofs.Yteabiokhbaekpaa
open Go.RowKit

theorem ret_str {s t : ByteArray} (h : s = t) : Ending.returned (.string s) = .returned (.string t) := by rw [h]

/-- One decimal digit. -/
def dgB (n : Int) : List UInt8 := [UInt8.ofNat (48 + n.toNat)]
theorem dgB_length (n : Int) : (dgB n).length = 1 := rfl

theorem digit_int (n : Int) (h0 : 0 ≤ n) (h : n < 10) : (ByteArray.mk #[48, 49, 50, 51, 52, 53, 54, 55, 56, 57]).extract n.toNat (n + 1).toNat = ms (dgB n) := by
  unfold dgB
  rw [show (n + 1).toNat = n.toNat + 1 by omega]
  exact digit_at _ (by omega)

/- left out: the seat has no spec.l1Num -/

/- left out: the seat has no spec.l1Num -/

/- left out: the seat has no spec.l1Num -/
end Go.Proofs.Yteabiokhbaekpaa

/- Contracts, weak ones: splitting and reading texts in the reference, as the draws need it. -/
namespace Go.Proofs.Yteabiokhbaekpaa
open Go.RowKit

theorem infoStrT : (Try.prog.info? 9).map (fun i => (i.zero, i.size, i.bytes)) = some (some (.string ByteArray.empty), 1, 16) := by kernel_rfl
theorem ext_le (s : ByteArray) (a b : Nat) : (s.extract a b).size ≤ s.size := by
  rw [← bl_length, bl_extract, List.length_take, List.length_drop, bl_length]; omega
theorem itoa_short {z : Int} (h0 : -1000000 ≤ z) (h1 : z ≤ 1000000) : (Lib.itoa z).length ≤ 14 := by
  rw [Lib.itoa]
  split
  · have := decDigits_len 12 z.natAbs (by omega)
    simp only [List.length_cons]; omega
  · have := decDigits_len 12 z.toNat (by omega)
    omega
/-- Some strings, none longer than a bound. -/
def StrsLe (n : Nat) (ps : List ByteArray) : Prop := ∀ p ∈ ps, p.size ≤ n

/- left out: the seat has no spec.l1Split -/
end Go.Proofs.Yteabiokhbaekpaa

/- Contracts, weak ones: the number of a text, the text of a clause, in the reference. -/
namespace Go.Proofs.Yteabiokhbaekpaa
open Go.RowKit

/-- A number and whether it was one. -/
def ReadW (e : Ending) : Prop := ∃ (z : Int) (q : Bool), -1000000 ≤ z ∧ z ≤ 1000000 ∧ e = .returned (.tuple #[.int .i64 z, .bool q])
/- left out: the seat has no spec.l1Read -/

/- left out: the seat has no spec.l2Text -/
end Go.Proofs.Yteabiokhbaekpaa

/- Contract, a weak one: a clause read from a text, in the reference. -/
namespace Go.Proofs.Yteabiokhbaekpaa
open Go.RowKit

theorem strs_own {w : World} {B : Nat} {e : TypeId} {A : Option Addr} {c : Nat} {ps : List ByteArray} (h : w.ownsRow B e 1 (.slice A ps.length c) ps.length (ps.map .string)) {j : Nat} (hj : j < ps.length) : ∃ b off, A = some ⟨b, off, none⟩ ∧ w.cell? ⟨b, off + j, none⟩ = some (.string ps[j]) := by
  obtain ⟨g, cap, cur, e1, _, hh, _, _, _, ht⟩ := own_block h (by omega)
  simp only [Value.slice.injEq] at e1
  obtain ⟨rfl, -, rfl⟩ := e1
  refine ⟨g, 0, rfl, ?_⟩
  rw [Nat.mul_one] at ht
  rw [Nat.zero_add, hown_cell hh ht hj]
  simp [hj]
theorem Within.snoc {m : Int} {c : List Int} {x : Int} (h : Within m c) (h0 : -m ≤ x) (h1 : x ≤ m) : Within m (c ++ [x]) := fun y hy => by
  rcases List.mem_append.1 hy with hy | hy
  · exact h y hy
  · obtain rfl : y = x := by simpa using hy
    exact ⟨h0, h1⟩
/-- A clause and whether it is one. -/
def ParseW (vars : Int) (w : World) (e : Ending) (w' : World) : Prop := ∃ (c : List Int) (B : Option Addr) (k : Nat) (q : Bool), e = .returned (.tuple #[.slice B c.length k, .bool q]) ∧ Within 1000000 c ∧ c.length ≤ 13 ∧ (q = true → clauseB vars c = true) ∧ Sp w w' [Own 3 1 (.slice B c.length k) c.length (c.map (.int .i64))]

/- left out: the seat has no spec.l2Parse -/
end Go.Proofs.Yteabiokhbaekpaa

/- Contract, a weak one: the text of a Cnf, in the reference. -/
namespace Go.Proofs.Yteabiokhbaekpaa
open Go.RowKit

/-- Clauses that are short and small. -/
def SmallC (xss : List (List Int)) : Prop := ∀ c ∈ xss, Within 1000000 c ∧ c.length ≤ 13

/- left out: the seat has no spec.l2TextOf -/
end Go.Proofs.Yteabiokhbaekpaa

/- Contracts, weak ones: a Cnf read from a text, in the reference. -/
namespace Go.Proofs.Yteabiokhbaekpaa
open Go.RowKit

theorem sep_front : ∀ {qs ps : List Asn} {w : World} {F : List Nat}, sep (qs ++ ps) w F → ∃ F1, sep qs w F1 ∧ ∀ b ∈ F1, b ∈ F
  | [], ps, w, F, _ => ⟨[], rfl, by simp⟩
  | q :: qs, ps, w, F, h => by
    obtain ⟨F1, F2, rfl, h1, h2, h3⟩ := h
    obtain ⟨F3, h4, h5⟩ := sep_front h3
    refine ⟨F1 ++ F3, ⟨F1, F3, rfl, fun b hb hb2 => h1 b hb (h5 b hb2), h2, h4⟩, fun b hb => ?_⟩
    rcases List.mem_append.1 hb with h | h
    · exact List.mem_append.2 (.inl h)
    · exact List.mem_append.2 (.inr (h5 b h))
/-- The parts behind are let go. -/
theorem Sp.front {w0 w : World} {ps qs : List Asn} (h : Sp w0 w (qs ++ ps)) : Sp w0 w qs := by
  obtain ⟨h1, G, h2, h3⟩ := h
  obtain ⟨F, h4, h5⟩ := sep_front h2
  exact ⟨h1, F, h4, fun b hb => h3 b (h5 b hb)⟩
/-- A small Cnf of its own, and whether there is one. -/
def CnfW (w : World) (e : Ending) (w' : World) : Prop := ∃ (vars : Int) (B : Option Addr) (cap : Nat) (cs : List Value) (xss : List (List Int)) (q : Bool), e = .returned (.tuple #[.agg #[.int .i64 vars, .slice B xss.length cap], .bool q]) ∧ 0 ≤ vars ∧ vars ≤ 12 ∧ xss.length ≤ 60 ∧ SmallC xss ∧
  Sp w w' [Rows Ty.int 26 (.slice B xss.length cap) cs xss]
theorem cnfW_no {w w' : World} (hb : Below w.heap.size w w') : CnfW w (.returned (.tuple #[.agg #[.int .i64 0, .slice none 0 0], .bool false])) w' :=
  ⟨0, none, 0, [], [], false, rfl, by decide, by decide, by simp, (fun c hc => by simp at hc), (Sp.of_below hb).rows_nil _ _⟩

/- left out: the seat has no spec.ParseCnf -/
end Go.Proofs.Yteabiokhbaekpaa

/- Contract, a weak one: a Cnf with its variables renamed, in the reference. -/
namespace Go.Proofs.Yteabiokhbaekpaa
open Go.RowKit

theorem clause_len {vars : Int} {c : List Int} (h : clauseB vars c = true) : c.length ≤ 12 := by
  have hp := clause_parts h
  exact rising_len (m := 12) (k := 1) (clause_rising h) (fun l hl => by have := hp.2.1 l hl; omega)

theorem absV_of (l : Int) (h : -13 ≤ l ∧ l ≤ 13) : absV l = (l.natAbs : Int) := by
  unfold absV negV
  split
  · rw [IntWalk.wrap64_in _ (by omega)]; omega
  · omega

/- left out: the seat has no spec.RenameCnf -/
end Go.Proofs.Yteabiokhbaekpaa

/- Contracts: numbers of variables that are drawn, mostly up to five. -/
namespace Go.Proofs.Yteabiokhbaekpaa
open Go.RowKit

/- left out: the seat has no (*loop.example/g01080/spec.l1Cur).vars2 -/
end Go.Proofs.Yteabiokhbaekpaa

/- Joined parts beside a cursor; a known Cnf, weakly, and the texts without models. -/
namespace Go.Proofs.Yteabiokhbaekpaa
open Go.RowKit

section
variable {w0 w w' : World} {g cl cc A A' : Nat} {ca : Option Addr} {ps qs : List Asn}
theorem CS.comp (h : CS w0 g ca cl cc A w ps) (k : CS w g ca cl cc A' w' qs) : CS w0 g ca cl cc A' w' (qs ++ ps) := by
  have hg := h.glt
  have hsz := h.chg.size
  obtain ⟨h0, h1, h2, F, h3, h4⟩ := h
  obtain ⟨k0, k1, k2, G, k3, k4⟩ := k
  have hk := sep_keep h3 fun b hm => k2.block b (sep_lt h3 b hm) fun hb => by
    obtain rfl : b = g := by simpa using hb
    have := h4 b hm; omega
  refine ⟨h0, k1, h2.trans k2, G ++ F, sep_append k3 hk (fun b hb hb2 => ?_), fun b hb => ?_⟩
  · have := k4 b hb; have := sep_lt h3 b hb2; omega
  · rcases List.mem_append.1 hb with hb | hb
    · have := k4 b hb; omega
    · exact h4 b hb
theorem CS.front (h : CS w0 g ca cl cc A w (qs ++ ps)) : CS w0 g ca cl cc A w qs := by
  obtain ⟨h0, h1, h2, F, h3, h4⟩ := h
  obtain ⟨G, h5, h6⟩ := sep_front h3
  exact ⟨h0, h1, h2, G, h5, fun b hb => h4 b (h6 b hb)⟩
theorem row_cs {v : Value} {c : List Int} (h : CurIs A g ca cl cc w) (hi : CurIs A' g ca cl cc w') (hc : Chg [g] w w') (ho : w'.ownsRow w.heap.size 3 1 v c.length (c.map (.int .i64))) :
    CS w g ca cl cc A' w' [Own 3 1 v c.length (c.map (.int .i64))] :=
  ⟨⟨A, h⟩, hi, hc, _, ⟨v.ownBlock.toList, [], by rw [List.append_nil], by simp, ⟨rfl, owns_zero ho⟩, rfl⟩, fun b hb => owns_ge ho b (by simpa using hb)⟩
end
def TextLe (n : Nat) (s : ByteArray) : Prop := s.size ≤ n
theorem text_le {n : Nat} {s : ByteArray} (h : decide (s.size ≤ n) = true) : TextLe n s := show s.size ≤ n from of_decide_eq_true h
theorem strsR_new {R : ByteArray → Prop} {W : World} {cs : Array Value} {t : TypeId} {b n : Nat} (hb : b = W.heap.size) (h : ∀ j, j < n → ∃ s, cs[j]? = some (.string s) ∧ R s) : StrsR R (W.alloc (.cells cs t)) b 0 n := fun j hj => by
  obtain ⟨s, h1, h2⟩ := h j hj
  subst hb
  refine ⟨s, h2, ?_⟩
  rw [Nat.zero_add]
  exact (cell_of_row _ _ _ _ _ _ (heap_alloc_new W _)).trans h1

/-- A small Cnf of its own. -/
def CnfV (w : World) (e : Ending) (w' : World) : Prop := ∃ (vars : Int) (B : Option Addr) (cap : Nat) (cs : List Value) (xss : List (List Int)), e = .returned (.agg #[.int .i64 vars, .slice B xss.length cap]) ∧ 0 ≤ vars ∧ vars ≤ 12 ∧ xss.length ≤ 60 ∧ SmallC xss ∧
  Sp w w' [Rows Ty.int 26 (.slice B xss.length cap) cs xss]

/- left out: the seat has no spec.l2Known -/

/- left out: the seat has no spec.l2Hard -/
end Go.Proofs.Yteabiokhbaekpaa

/- Contract: a drawn Cnf without models. -/
namespace Go.Proofs.Yteabiokhbaekpaa
open Go.RowKit

/-- Rows of small clauses. -/
def SmallR (n : Nat) (xss : List (List Int)) : Prop := ∀ c ∈ xss, (∀ x ∈ c, I64 x) ∧ c.length ≤ n
theorem SmallC.r {xss : List (List Int)} (h : SmallC xss) : SmallR 13 xss := fun c hc => ⟨(h c hc).1.i64 (by decide), (h c hc).2⟩
/-- A drawn Cnf. -/
def CnfPost (A g : Nat) (ca : Option Addr) (cl cc : Nat) (w : World) (e : Ending) (w' : World) : Prop := ∃ (vars : Int) (B : Option Addr) (cap : Nat) (cs : List Value) (xss : List (List Int)), e = .returned (.agg #[.int .i64 vars, .slice B xss.length cap]) ∧ -1 ≤ vars ∧ vars ≤ 13 ∧ xss.length ≤ 62 ∧ SmallR 13 xss ∧
  CS w g ca cl cc A w' [Rows Ty.int 26 (.slice B xss.length cap) cs xss]

/- left out: the seat has no (*loop.example/g01080/spec.l1Cur).hard -/
end Go.Proofs.Yteabiokhbaekpaa

/- Rows of rows that grow by several rows; rows of one number. -/
namespace Go.Proofs.Yteabiokhbaekpaa
open Go.RowKit

/-- Rows that wait to be appended. -/
def Pend {α : Type} (T : Ty α) (us : List Value) (yss : List (List α)) : Asn where
  p w F := F.Nodup ∧ (Ty.slice T).all true w us yss F
  lt h := Ty.all_lt h.2
  keep h hk := ⟨h.1, Ty.all_keep h.2 hk⟩
section
variable {w0 w w' w1 : World} {g cl cc A : Nat} {ca : Option Addr} {ps : List Asn} {e : TypeId} {α : Type} {T : Ty α} {v v' u1 u2 : Value} {cs us : List Value} {xss yss : List (List α)} {ys1 ys2 : List α}
theorem CS.pend (h : CS w0 g ca cl cc A w (Row T u1 ys1 :: Row T u2 ys2 :: ps)) : CS w0 g ca cl cc A w (Pend T [u1, u2] [ys1, ys2] :: ps) := by
  obtain ⟨h0, h1, h2, F, ⟨F1, F2, rfl, hd, ⟨hr, hn⟩, ⟨F3, F4, rfl, hd', ⟨hr', hn'⟩, h5⟩⟩, h3⟩ := h
  refine ⟨h0, h1, h2, (F1 ++ F3) ++ F4, ⟨F1 ++ F3, F4, rfl, ?_, ⟨?_, Ty.all_append (cs := [u1]) (xs := [ys1]) (Ty.all_one ⟨u1, rfl, hr⟩) (Ty.all_one ⟨u2, rfl, hr'⟩)⟩, h5⟩, ?_⟩
  · intro b hm hm4
    rcases List.mem_append.1 hm with hm | hm
    · exact hd b hm (List.mem_append.2 (.inr hm4))
    · exact hd' b hm hm4
  · exact List.nodup_append.2 ⟨hn, hn', fun x hx y hy e => hd x hx (List.mem_append.2 (.inl (e ▸ hy)))⟩
  · intro b hm
    exact h3 b (by simpa [List.append_assoc] using hm)
theorem CS.rows_append (h : CS w0 g ca cl cc A w (Pend T us yss :: Rows T e v cs xss :: ps)) (hb : Below w.heap.size w w1) (ho : w'.ownsRow 0 e 1 v' (xss.length + yss.length) (cs ++ us)) (hg : w1.grownBy w' v.ownBlock)
    (hat : v'.ownBlock = v.ownBlock ∨ v'.ownBlock = some w1.heap.size) : CS w0 g ca cl cc A w' (Rows T e v' (cs ++ us) (xss ++ yss) :: ps) := by
  have hsz := h.chg.size
  obtain ⟨⟨A0, h0'⟩, hcur, h1, F, ⟨F1, F2, rfl, hd, ⟨hn, hr⟩, ⟨F3, F4, rfl, hd', ⟨G, rfl, hn', hall, hown⟩, h5⟩⟩, h3⟩ := h
  have hr1 := Ty.all_keep hr fun b hm => hb.block b (Ty.all_lt hr b hm)
  have hall1 := Ty.all_keep hall fun b hm => hb.block b (Ty.all_lt hall b hm)
  have h51 := sep_keep h5 fun b hm => hb.block b (sep_lt h5 b hm)
  have hkeep : ∀ b, b < w.heap.size → (∀ g, v.ownBlock = some g → b ≠ g) → w'.heap[b]? = w1.heap[b]? := fun b hlt hne => hg.block b (Nat.lt_of_lt_of_le hlt hb.size) (fun e => hne b e.symm rfl)
  have hr2 := Ty.all_keep hr1 fun b hm => hkeep b (Ty.all_lt hr b hm) fun g hg' e => hd b hm (by simp [hg', e])
  have hnG : ∀ b ∈ G, ∀ g, v.ownBlock = some g → b ≠ g := fun b hm g hg' e => by
    rw [List.nodup_append] at hn'
    exact hn'.2.2 g (by simp [hg']) b hm e.symm
  have hall2 := Ty.all_keep hall1 fun b hm => hkeep b (Ty.all_lt hall b hm) (hnG b hm)
  have h52 := sep_keep h51 fun b hm => hkeep b (sep_lt h5 b hm) fun g hg' e => hd' b (by simp [hg', e]) hm
  have hlv : ∀ b ∈ v'.ownBlock.toList, b ∈ v.ownBlock.toList ∨ b = w1.heap.size := fun b hm => by
    rcases hat with h | h
    · left; rwa [h] at hm
    · right; rw [h] at hm; simpa using hm
  have hs := hb.size
  have hold : ∀ k, k < w0.heap.size → w'.heap[k]? = w.heap[k]? := fun k hk => (hkeep k (by omega) fun g hg' e => by have := h3 g (by simp [hg']); omega).trans (hb.block k (by omega))
  have hchg : Chg [g] w0 w' := ⟨hg.os.trans (hb.os.trans h1.os), hg.tape.trans (hb.tape.trans h1.tape), hg.output.trans (hb.output.trans h1.output), by have := hg.size; omega, fun k hk hn => (hold k hk).trans (h1.block k hk hn)⟩
  refine ⟨⟨A0, h0'⟩, h0'.stay hcur hold, hchg, (v'.ownBlock.toList ++ (G ++ F1)) ++ F4, ⟨_, F4, rfl, ?_, ⟨G ++ F1, rfl, ?_, ?_, by simpa using ho⟩, h52⟩, ?_⟩
  · intro b hm hm4
    rcases List.mem_append.1 hm with hm | hm
    · rcases hlv b hm with h | h
      · exact hd' b (List.mem_append.2 (.inl h)) hm4
      · have := sep_lt h5 b hm4; omega
    · rcases List.mem_append.1 hm with hm | hm
      · exact hd' b (List.mem_append.2 (.inr hm)) hm4
      · exact hd b hm (List.mem_append.2 (.inr hm4))
  · refine List.nodup_append.2 ⟨by cases v'.ownBlock <;> simp, List.nodup_append.2 ⟨(List.nodup_append.1 hn').2.1, hn, fun x hx y hy e => hd y hy (by simp [← e, hx])⟩, fun x hx y hy e => ?_⟩
    subst e
    rcases hlv x hx with h | h
    · rcases List.mem_append.1 hy with hy | hy
      · exact (List.nodup_append.1 hn').2.2 x h x hy rfl
      · exact hd x hy (List.mem_append.2 (.inl (List.mem_append.2 (.inl h))))
    · rcases List.mem_append.1 hy with hy | hy
      · have := Ty.all_lt hall x hy; omega
      · have := Ty.all_lt hr x hy; omega
  · exact Ty.all_append hall2 hr2
  · intro b hm
    rcases List.mem_append.1 hm with hm | hm
    · rcases List.mem_append.1 hm with hm | hm
      · rcases hlv b hm with h | h
        · exact h3 b (by simp at h ⊢; simp [h])
        · omega
      · rcases List.mem_append.1 hm with hm | hm
        · exact h3 b (by simp [hm])
        · exact h3 b (by simp [hm])
    · exact h3 b (by simp [hm])
theorem CS.own_one (h : CS w0 g ca cl cc A w ps) (x : Value) (e : TypeId) : CS w0 g ca cl cc A (w.alloc (.cells #[x] e)) (Own e 1 (.slice (some ⟨w.heap.size, 0, none⟩) 1 1) 1 [x] :: ps) :=
  h.own_new (bal (bb _) _) ⟨by simp, .inr ⟨w.heap.size, 1, #[x], rfl, Nat.zero_le _, heap_alloc_new w _, Nat.le_refl _, by decide, by simp, by simp⟩⟩ (fun g hg => by
    have : w.heap.size = g := by simpa [Value.ownBlock] using hg
    omega)
end
theorem Src.two {w : World} {b : Nat} {x y : Value} (h : w.cell? ⟨b, 0, none⟩ = some x) (h2 : w.cell? ⟨b, 1, none⟩ = some y) : Src w (some ⟨b, 0, none⟩) 2 1 [x, y] := .inr ⟨_, rfl, rfl, fun j u hj => by
    match j, hj with
    | 0, hj => simp at hj; subst hj; rw [add_none]; exact h
    | 1, hj => simp at hj; subst hj; rw [add_none]; exact h2⟩
set_option maxHeartbeats 400000 in
theorem bs_five (a : Act) (w : World) (K : Act → World → Prop) (Q : Exit → Act → World → Prop) (p : String) (h : K (a.put (some 34) (.slice (some ⟨w.heap.size, 0, none⟩) 5 5)) (w.alloc (.cells #[.int .i64 (-1), .int .i64 13, .int .i64 12, .int .i64 0, .int .i64 1] 3))) :
    Oper.wp Try.prog {dst := some 34, op := Op.buildSlice 26 5 #[(0, .const (.int .i64 (-1))), (1, .const (.int .i64 13)), (2, .const (.int .i64 12)), (3, .const (.int .i64 0)), (4, .const (.int .i64 1))], type := 26, pos := p, after := #[], guard := none} a w K Q := by
  go_simp
  exact h
/-- The length of the row that lies in a block's second cell. -/
def lenAt1 (w : World) (b : Nat) : Nat := match w.cell? ⟨b, 1, none⟩ with | some (.slice _ n _) => n | _ => 0
theorem lenAt1_of {w : World} {b n c : Nat} {B : Option Addr} (h : w.cell? ⟨b, 1, none⟩ = some (.slice B n c)) : lenAt1 w b = n := by simp [lenAt1, h]
end Go.Proofs.Yteabiokhbaekpaa

/- Contract: all clauses over some variables, in the program. Printed by gen_cub.py. -/
namespace Go.Proofs.Yteabiokhbaekpaa
open Go.RowKit

theorem Sp.poolX_in {w0 w : World} {ps : List Asn} {K : List (Value × List Int)} {v : Value} {xs : List Int} (h : Sp w0 w (Own 3 1 v xs.length (xs.map (.int .i64)) :: Pool K :: ps)) (hI : ∀ x ∈ xs, I64 x) : Sp w0 w (Pool ((v, xs) :: K) :: ps) :=
  h.merge fun F1 F2 h1 h2 => by
    obtain ⟨rfl, ho⟩ := h1
    obtain ⟨G, hr, hG, -⟩ := Ty.row_of_owns ho rfl (by decide) (Ty.all_int hI)
    have hG2 : ∀ b ∈ G, b ∈ v.ownBlock.toList := by
      rcases hG with rfl | ⟨g, _, _, e, rfl⟩
      · simp
      · intro b hb
        rw [List.mem_singleton.1 hb, e]; simp
    refine ⟨fun b hb => ?_, fun q hq => ?_⟩
    · rcases List.mem_append.1 hb with hb | hb
      · exact owns_lt ho (by simpa using hb)
      · exact h2.1 b hb
    · rcases List.mem_cons.1 hq with rfl | hq
      · exact ⟨G, Ty.row_down hr, fun b hb => List.mem_append.2 (.inl (hG2 b hb))⟩
      · obtain ⟨H, h3, h4⟩ := h2.2 q hq
        exact ⟨H, h3, fun b hb => List.mem_append.2 (.inr (h4 b hb))⟩
theorem Sp.poolX_nil {w0 w : World} {ps : List Asn} (h : Sp w0 w ps) : Sp w0 w (Pool [] :: ps) := h.pool_nil
theorem Sp.poolX_empty {w0 w : World} {ps : List Asn} {K : List (Value × List Int)} (h : Sp w0 w (Pool K :: ps)) : Sp w0 w (Pool ((.slice none 0 0, []) :: K) :: ps) := by
  obtain ⟨h1, G, ⟨F1, G1, rfl, d1, p1, h5⟩, h3⟩ := h
  refine ⟨h1, F1 ++ G1, ⟨F1, G1, rfl, d1, ⟨p1.1, fun q hq => ?_⟩, h5⟩, h3⟩
  rcases List.mem_cons.1 hq with rfl | hq
  · exact ⟨[], Ty.row_nil _ _ _ _ _ (by decide), by simp⟩
  · exact p1.2 q hq
theorem Sp.poolX_at {w0 w : World} {ps : List Asn} {i : Nat} {K : List (Value × List Int)} (h : Sp w0 w ps) (hi : ps[i]? = some (Pool K)) : ∀ q ∈ K, IOf w q := fun q hq => by
  obtain ⟨G, hr⟩ := h.pool_at hi hq
  obtain ⟨A, c, e, h1⟩ := Go.Proofs.Yteabiokhbaekpaa.ints_row hr
  exact ⟨A, c, e, h1⟩

/-- What signings holds: the clauses of now, and the next ones. -/
def SgPostG (L : List Int) (n : Nat) (w : World) (e : Ending) (w' : World) : Prop := ∃ (B : Option Addr) (c : Nat) (ks K : List (Value × List Int)), e = .returned (.slice B ks.length c) ∧ ks.map Prod.snd = sgnG L n ∧ (∀ q ∈ ks, q ∈ K) ∧ Sp w w' [SRow (.slice B ks.length c) ks, Pool K]

/- left out: the seat has no impl.signings -/
end Go.Proofs.Yteabiokhbaekpaa

/- Contract: the clauses of a parity, in the program. Printed by gen_cue.py. -/
namespace Go.Proofs.Yteabiokhbaekpaa
open Go.RowKit

/- left out: the seat has no impl.xorClauses -/
end Go.Proofs.Yteabiokhbaekpaa

/- Contract: numbers in ascending order between two bounds, in the reference. Printed by gen_cuf.py. -/
namespace Go.Proofs.Yteabiokhbaekpaa
open Go.RowKit

/-- An index that fits, above the one ahead of it. -/
def rOkG (lo hi : Int) (l : List Int) (i : Nat) : Bool := inB (l.getD i 0) lo hi && (i == 0 || decide (l.getD (i - 1) 0 < l.getD i 0))
def rOkGTo (lo hi : Int) (l : List Int) (k : Nat) : Bool := (List.range k).all (rOkG lo hi l)
theorem rOkGTo_succ (lo hi : Int) (l : List Int) (k : Nat) : rOkGTo lo hi l (k + 1) = (rOkGTo lo hi l k && rOkG lo hi l k) := by simp [rOkGTo, List.range_succ]
def risG (lo hi : Int) (l : List Int) : Bool := rOkGTo lo hi l l.length
theorem risG_no {lo hi : Int} {l : List Int} {k : Nat} (hk : k < l.length) (h : rOkG lo hi l k = false) : risG lo hi l = false := by
  unfold risG rOkGTo
  rw [List.all_eq_false]
  exact ⟨k, List.mem_range.2 hk, by rw [h]; decide⟩
theorem risG_step {lo hi : Int} {l : List Int} {k : Nat} (h0 : rOkGTo lo hi l k = true) (h : rOkG lo hi l k = true) : rOkGTo lo hi l (k + 1) = true := by rw [rOkGTo_succ, h0, h]; rfl
theorem rOkG_zero (lo hi : Int) (l : List Int) (h : 0 < l.length) : rOkG lo hi l 0 = inB l[0] lo hi := by simp [rOkG, List.getD_eq_getElem?_getD, List.getElem?_eq_getElem h]
theorem rOkG_succ (lo hi : Int) (l : List Int) (k : Nat) (h : k + 1 < l.length) : rOkG lo hi l (k + 1) = (inB l[k + 1] lo hi && decide ((l[k]'(by omega)) < l[k + 1])) := by
  simp [rOkG, List.getD_eq_getElem?_getD, List.getElem?_eq_getElem h, List.getElem?_eq_getElem (show k < l.length by omega)]

set_option maxRecDepth 100000 in
set_option maxHeartbeats 4000000 in
theorem l1RisingG_any (A : Option Addr) (cap : Nat) (l : List Int) (lo hi : Int) (w : World) (hx : IntsAt w A l) (hl : l.length ≤ 1000000) :
    Calls Try.prog 41 #[.slice A l.length cap, .int .i64 lo, .int .i64 hi] w fun e w' => e = .returned (.bool (risG lo hi l)) ∧ Below w.heap.size w w' := by
  have hX := Lib.hid hx
  have hd : Hid (risG lo hi l = rOkGTo lo hi l l.length) := rfl
  clear hx
  go_enter Try.func41, Try.ntmps41
  go_wp2_with fail
  go_loopw [7] (fun i wr => ∃ k : Nat, k ≤ l.length ∧ i = .int .i64 k ∧ Hid (rOkGTo lo hi l k = true) ∧ Hid (Below w.heap.size w wr)) (fun i _ => l.length - (intOf i).toNat)
  case atStart => exact ⟨0, Nat.zero_le _, rfl, by simp [Hid, rOkGTo], bb _⟩
  case round =>
    obtain ⟨k, hk, rfl, HR, hB⟩ := hrel
    by_cases hlt : k < l.length
    · obtain ⟨b, off, rfl, m0⟩ := (hX.out.grow hB.out).at_ k hlt
      have k0 := cell_regrown m0
      cases hq : inB l[k] lo hi
      · have HN : Hid (risG lo hi l = false) := risG_no hlt (by unfold rOkG; rw [List.getD_eq_getElem?_getD, List.getElem?_eq_getElem hlt]; simp [hq])
        generalize l[k] = x at *
        clear m0
        go_wp2_with fail
        refine wp_region_quiet_below (by kernel_rfl) (by kernel_rfl) ?_
        repeat (any_goals (first | go_big_quiet_step ((go_at_call 40; exact Calls.regrown_of (l1InB hq _)))))
        refine wpQuiet_nil ?_
        rintro w1 ⟨p, rfl⟩
        have hB2 := Lib.hid (btr hB.out (below_regrown _ p.d p.os))
        clear hB k0
        go_wp2_with fail
        go_ret
        exact ⟨ret_bool HN.out.symm, hB2.out⟩
      rcases Nat.eq_zero_or_pos k with rfl | hpos
      · have HN : Hid (rOkGTo lo hi l (0 + 1) = true) := risG_step rfl (by rw [rOkG_zero _ _ _ hlt]; exact hq)
        rw [Nat.add_zero] at k0
        generalize l[0] = x at *
        clear HR m0
        go_wp2_with fail
        refine wp_region_quiet_below (by kernel_rfl) (by kernel_rfl) ?_
        repeat (any_goals (first | go_big_quiet_step ((go_at_call 40; exact Calls.regrown_of (l1InB hq _)))))
        refine wpQuiet_nil ?_
        rintro w1 ⟨p, rfl⟩
        have hB2 := Lib.hid (btr hB.out (below_regrown _ p.d p.os))
        clear hB k0
        go_wp2_with fail
        go_roundw
        case rel => exact ⟨0 + 1, by omega, by go_num, HN, hB2⟩
        case measure => simp [intOf]; omega
      have hj : k - 1 < l.length := by omega
      obtain ⟨b', off', e', m1⟩ := (hX.out.grow hB.out).at_ (k - 1) hj
      cases e'
      have k1 := cell_regrown m1
      have HS : rOkG lo hi l k = decide (l[k - 1] < l[k]) := by
        obtain ⟨j, rfl⟩ : ∃ j, k = j + 1 := ⟨k - 1, by omega⟩
        rw [rOkG_succ lo hi l j hlt, hq, Bool.true_and]
        rfl
      generalize l[k - 1] = y at *
      generalize l[k] = x at *
      have hg : (0 : Int) < (k : Int) := by omega
      clear m0 m1
      by_cases hc : y < x
      · have HN : Hid (rOkGTo lo hi l (k + 1) = true) := risG_step HR.out (by rw [HS]; simpa using hc)
        clear HS HR
        go_wp2_with fail
        refine wp_region_quiet_below (by kernel_rfl) (by kernel_rfl) ?_
        repeat (any_goals (first | go_big_quiet_step ((go_at_call 40; exact Calls.regrown_of (l1InB hq _)))))
        refine wpQuiet_nil ?_
        rintro w1 ⟨p, rfl⟩
        have hB2 := Lib.hid (btr hB.out (below_regrown _ p.d p.os))
        clear hB k0 k1
        go_wp2_with fail
        go_roundw
        case rel => exact ⟨k + 1, by omega, by go_num, HN, hB2⟩
        case measure => simp [intOf]; omega
      · have HN : Hid (risG lo hi l = false) := risG_no hlt (by rw [HS]; simpa using hc)
        clear HS HR
        go_wp2_with fail
        refine wp_region_quiet_below (by kernel_rfl) (by kernel_rfl) ?_
        repeat (any_goals (first | go_big_quiet_step ((go_at_call 40; exact Calls.regrown_of (l1InB hq _)))))
        refine wpQuiet_nil ?_
        rintro w1 ⟨p, rfl⟩
        have hB2 := Lib.hid (btr hB.out (below_regrown _ p.d p.os))
        clear hB k0 k1
        go_wp2_with fail
        go_ret
        exact ⟨ret_bool HN.out.symm, hB2.out⟩
    · obtain rfl : k = l.length := by omega
      have HN : Hid (risG lo hi l = true) := hd.out.trans HR.out
      go_wp2_with fail
      go_ret
      exact ⟨ret_bool HN.out.symm, hB.out⟩

end Go.Proofs.Yteabiokhbaekpaa

/- Contracts: whether lists are a choice, on both sides. -/
namespace Go.Proofs.Yteabiokhbaekpaa
open Go.RowKit

/-- A list of a choice; a choice. -/
def lstB (l : List Int) : Bool := risG 1 3 l
def choiceB (L : List (List Int)) : Bool := inB L.length 1 4 && L.all lstB
theorem lst_facts {l : List Int} (h : lstB l = true) (k : Nat) (hk : k < l.length) : inB l[k] 1 3 = true ∧ (k = 0 ∨ ∃ h' : k - 1 < l.length, l[k - 1] < l[k]) := by
  unfold lstB risG rOkGTo at h
  have h1 := List.all_eq_true.1 h k (List.mem_range.2 hk)
  rcases k with _ | k
  · rw [rOkG_zero _ _ _ hk] at h1; exact ⟨h1, .inl rfl⟩
  · rw [rOkG_succ _ _ _ _ hk, Bool.and_eq_true, decide_eq_true_eq] at h1
    exact ⟨h1.1, .inr ⟨by simp; omega, h1.2⟩⟩
theorem lst_len {l : List Int} (h : lstB l = true) : l.length ≤ 3 := by
  refine Nat.le_of_not_lt fun hl => ?_
  have f := lst_facts h
  have g : ∀ k (hk : k < l.length), ((k : Int) + 1 ≤ l[k]) := fun k => by
    induction k with
    | zero => intro hk; have := inB_true.1 (f 0 hk).1; omega
    | succ k ih =>
      intro hk
      rcases (f (k + 1) hk).2 with h0 | ⟨h', hlt⟩
      · omega
      · have := ih (by omega)
        simp only [Nat.add_sub_cancel] at hlt
        omega
  have h3 := g 3 (by omega)
  have h4 := inB_true.1 (f 3 (by omega)).1
  omega
theorem choice_no {L : List (List Int)} {i : Nat} (hi : i < L.length) (h : lstB L[i] = false) : choiceB L = false := by
  unfold choiceB
  have : L.all lstB = false := by rw [List.all_eq_false]; exact ⟨_, List.getElem_mem hi, by rw [h]; simp⟩
  rw [this]; simp
theorem choice_all {L : List (List Int)} (h : ∀ l ∈ L, lstB l = true) : choiceB L = inB L.length 1 4 := by
  unfold choiceB
  rw [List.all_eq_true.2 h]; simp
theorem choice_parts {L : List (List Int)} (h : choiceB L = true) : (1 ≤ L.length ∧ L.length ≤ 4) ∧ ∀ l ∈ L, lstB l = true := by
  unfold choiceB at h
  rw [Bool.and_eq_true, List.all_eq_true] at h
  have := inB_true.1 h.1
  exact ⟨by omega, h.2⟩

set_option maxRecDepth 100000 in
set_option maxHeartbeats 4000000 in
theorem implIsChoice_any (A : Option Addr) (cap : Nat) (L : List (List Int)) (w : World) (hx : ClsAt w A L) (hl : L.length ≤ 1000) (hs : ∀ l ∈ L, l.length ≤ 1000) :
    Calls Try.prog 13 #[.slice A L.length cap] w fun e w' => e = .returned (.bool (choiceB L)) ∧ w = w' := by
  have hX := Lib.hid hx
  clear hx
  have hwl := Lib.hid (fun W => within_any L.length 1 4 W)
  go_enter Try.func13, Try.ntmps13
  go_wp2_with fail
  go_loopw [9] (fun v9 wr => ∃ i : Nat, i ≤ L.length ∧ v9 = .int .i64 i ∧ Hid (∀ l ∈ L.take i, lstB l = true) ∧ Hid (w = wr)) (fun v9 _ => L.length - (intOf v9).toNat)
  case atStart => exact ⟨0, Nat.zero_le _, rfl, (fun l h => by simp at h), rfl⟩
  case round =>
    obtain ⟨i, hi, rfl, HR, hW⟩ := hrel
    by_cases hlt : i < L.length
    · obtain ⟨b, off, D, dc, hA, m0, hI⟩ := hX.out.at_ i hlt
      have hW' := hW.out
      subst hW'
      subst hA
      have hsl := hs _ (List.getElem_mem hlt)
      have hno := Lib.hid (fun h : lstB L[i] = false => choice_no hlt h)
      have hyes : Hid (lstB L[i] = true → ∀ l ∈ L.take (i + 1), lstB l = true) := fun h l hm => by
        rw [List.take_succ_eq_append_getElem hlt, List.mem_append, List.mem_singleton] at hm
        rcases hm with hm | rfl
        · exact HR.out l hm
        · exact h
      have hdef : Hid (lstB L[i] = rOkGTo 1 3 L[i] L[i].length) := rfl
      generalize L[i] = l at *
      replace hI := Lib.hid hI
      clear HR hW
      go_wp2_with fail
      clear m0
      go_loopw [15] (fun v15 wr => ∃ k : Nat, k ≤ l.length ∧ v15 = .int .i64 k ∧ Hid (rOkGTo 1 3 l k = true) ∧ Hid (w = wr)) (fun v15 _ => l.length - (intOf v15).toNat)
      case atStart => exact ⟨0, Nat.zero_le _, rfl, by simp [Hid, rOkGTo], rfl⟩
      case round =>
        obtain ⟨k, hk, rfl, HK, hW2⟩ := hrel
        have hW' := hW2.out
        subst hW'
        by_cases hlt2 : k < l.length
        · obtain ⟨b1, off1, hD, m1⟩ := hI.out.at_ k hlt2
          subst hD
          cases hq : inB l[k] 1 3
          · have HN : Hid (choiceB L = false) := hno.out (risG_no hlt2 (by unfold rOkG; rw [List.getD_eq_getElem?_getD, List.getElem?_eq_getElem hlt2]; simp [hq]))
            have hw1 := Lib.hid (hq ▸ within_any l[k] 1 3 w)
            generalize l[k] = x at *
            clear hno hyes hdef HK
            go_wp2_with fail
            refine hw1.out.mono ?_
            rintro e w2 ⟨rfl, rfl⟩
            go_wp2_with fail
            go_ret
            exact ⟨ret_bool HN.out.symm, rfl⟩
          have hw1 := Lib.hid (within_any l[k] 1 3 w)
          rw [hq] at hw1
          rcases Nat.eq_zero_or_pos k with rfl | hpos
          · have HN : Hid (rOkGTo 1 3 l (0 + 1) = true) := risG_step rfl (by rw [rOkG_zero _ _ _ hlt2]; exact hq)
            rw [Nat.add_zero] at m1
            generalize l[0] = x at *
            clear HK
            go_wp2_with fail
            refine hw1.out.mono ?_
            rintro e w2 ⟨rfl, rfl⟩
            go_wp2_with fail
            go_roundw
            case rel => exact ⟨1, by omega, rfl, HN, by first | exact rfl | exact Lib.hid trivial⟩
            case measure => simp [intOf]; omega
          · obtain ⟨k, rfl⟩ : ∃ t, k = t + 1 := ⟨k - 1, by omega⟩
            obtain ⟨b2, off2, hD2, m2⟩ := hI.out.at_ k (by omega)
            cases hD2
            have hsub : IntKind.i64.wrap (((k + 1 : Nat) : Int) - 1) = (k : Int) := by rw [IntWalk.i64_in _ (by omega)]; omega
            have hrk := rOkG_succ 1 3 l k hlt2
            rw [hq, Bool.true_and] at hrk
            cases hd : decide (l[k] < l[k + 1])
            · rw [hd] at hrk
              have HN : Hid (choiceB L = false) := hno.out (risG_no hlt2 hrk)
              have hle : l[k + 1] ≤ l[k] := by simpa using hd
              generalize l[k + 1] = x at *
              generalize l[k] = y at *
              have hle2 : decide (x ≤ y) = true := decide_eq_true hle
              clear hno hyes hdef HK hrk hd
              go_wp2_with fail
              refine hw1.out.mono ?_
              rintro e w2 ⟨rfl, rfl⟩
              go_wp2_with fail
              go_ret
              exact ⟨ret_bool HN.out.symm, rfl⟩
            · rw [hd] at hrk
              have HN := Lib.hid (risG_step HK.out hrk)
              have hle : ¬ l[k + 1] ≤ l[k] := by have := of_decide_eq_true hd; omega
              generalize l[k + 1] = x at *
              generalize l[k] = y at *
              have hle2 : decide (x ≤ y) = false := decide_eq_false hle
              clear HK hrk hd
              go_wp2_with fail
              refine hw1.out.mono ?_
              rintro e w2 ⟨rfl, rfl⟩
              go_wp2_with fail
              go_roundw
              case rel => exact ⟨k + 1 + 1, by omega, by go_num, HN, by first | exact rfl | exact Lib.hid trivial⟩
              case measure => simp [intOf]; omega
        · obtain rfl : k = l.length := by omega
          have hy2 := Lib.hid (hyes.out (hdef.out.trans HK.out))
          go_wp2_with fail
          go_roundw
          case rel => exact ⟨i + 1, by omega, by go_num, hy2, by first | exact rfl | exact Lib.hid trivial⟩
          case measure => simp [intOf]; omega
    · obtain rfl : i = L.length := by omega
      have hW' := hW.out
      subst hW'
      have hch := choice_all (L := L) (by have := HR.out; rwa [List.take_length] at this)
      replace hch := Lib.hid hch
      go_wp2_with fail
      refine (hwl.out _).mono ?_
      rintro e w2 ⟨rfl, rfl⟩
      go_wp2_with fail
      go_ret
      exact ⟨ret_bool hch.out.symm, rfl⟩
end Go.Proofs.Yteabiokhbaekpaa

/- Plain facts: the clauses of a choice. -/
namespace Go.Proofs.Yteabiokhbaekpaa
open Go.RowKit

/-- A pigeon's clause; the holes and the pigeons of the first m lists; their clauses. -/
def seqC (a n : Nat) : List Int := (List.range n).map fun (c : Nat) => (a : Int) + c + 1
def holT (L : List (List Int)) (m : Nat) : List Int := (L.take m).flatten
def pigT (L : List (List Int)) (m : Nat) : List Int := (List.range m).flatMap fun (i : Nat) => List.replicate (L.getD i []).length (i : Int)
def nodT (L : List (List Int)) (m : Nat) : List (List Int) := (List.range m).map fun i => seqC (holT L i).length (L.getD i []).length
theorem seqC_succ (a n : Nat) : seqC a (n + 1) = seqC a n ++ [(a : Int) + n + 1] := by unfold seqC; rw [List.range_succ, List.map_append]; rfl
theorem seqC_len (a n : Nat) : (seqC a n).length = n := by simp [seqC]
theorem holT_succ {L : List (List Int)} {m : Nat} (h : m < L.length) : holT L (m + 1) = holT L m ++ L[m] := by
  unfold holT; rw [List.take_succ_eq_append_getElem h, List.flatten_append]; simp
theorem getD_at {L : List (List Int)} {m : Nat} (h : m < L.length) : L.getD m [] = L[m] := by rw [List.getD_eq_getElem?_getD, List.getElem?_eq_getElem h]; rfl
theorem pigT_succ {L : List (List Int)} {m : Nat} (h : m < L.length) : pigT L (m + 1) = pigT L m ++ List.replicate L[m].length (m : Int) := by
  unfold pigT; rw [List.range_succ, List.flatMap_append, List.flatMap_singleton, getD_at h]
theorem nodT_succ {L : List (List Int)} {m : Nat} (h : m < L.length) : nodT L (m + 1) = nodT L m ++ [seqC (holT L m).length L[m].length] := by
  unfold nodT; rw [List.range_succ, List.map_append, List.map_singleton, getD_at h]
theorem nodT_len (L : List (List Int)) (m : Nat) : (nodT L m).length = m := by simp [nodT]
theorem pig_hol {L : List (List Int)} : ∀ {m : Nat}, m ≤ L.length → (pigT L m).length = (holT L m).length
  | 0, _ => by simp [pigT, holT]
  | m + 1, h => by rw [pigT_succ (by omega), holT_succ (by omega), List.length_append, List.length_append, List.length_replicate, pig_hol (by omega)]
theorem hol_small {L : List (List Int)} (hL : ∀ l ∈ L, lstB l = true) : ∀ {m : Nat}, m ≤ L.length → (holT L m).length ≤ 3 * m
  | 0, _ => by simp [holT]
  | m + 1, h => by
    have h1 := hol_small hL (m := m) (by omega)
    have h2 := lst_len (hL _ (List.getElem_mem (show m < L.length by omega)))
    rw [holT_succ (by omega), List.length_append]; omega
theorem hol_rng {L : List (List Int)} (hL : ∀ l ∈ L, lstB l = true) {m : Nat} : ∀ x ∈ holT L m, 1 ≤ x ∧ x ≤ 3 := fun x hx => by
  unfold holT at hx
  obtain ⟨l, hl, hx⟩ := List.mem_flatten.1 hx
  obtain ⟨j, hj, rfl⟩ := List.getElem_of_mem hx
  exact inB_true.1 (lst_facts (hL l (List.mem_of_mem_take hl)) j hj).1
theorem pig_rng {L : List (List Int)} {m : Nat} : ∀ x ∈ pigT L m, 0 ≤ x ∧ x < m := fun x hx => by
  unfold pigT at hx
  obtain ⟨i, hi, hx⟩ := List.mem_flatMap.1 hx
  have := List.mem_range.1 hi
  have := List.eq_of_mem_replicate hx
  omega
theorem seqC_good {a n : Nat} (h : a + n ≤ 900) : GoodS (seqC a n) := by
  unfold seqC
  constructor
  · intro l hl
    obtain ⟨c, hc, rfl⟩ := List.mem_map.1 hl
    have := List.mem_range.1 hc
    unfold LitS; omega
  · rw [List.pairwise_map]
    refine List.pairwise_lt_range.imp_of_mem fun {x y} hx hy hxy => ?_
    have h1 := List.mem_range.1 hx
    have h2 := List.mem_range.1 hy
    unfold AscS
    rw [LitS.abs (show LitS ((a : Int) + x + 1) by unfold LitS; omega), LitS.abs (show LitS ((a : Int) + y + 1) by unfold LitS; omega)]
    split <;> split <;> omega
/-- The clauses of two pigeons in one hole. -/
def prC (v u : Nat) : List Int := [-(v : Int) - 1, -(u : Int) - 1]
def conC (P H : List Int) (v u : Nat) : Bool := (P.getD v 0 != P.getD u 0) && (H.getD v 0 == H.getD u 0)
def prI (P H : List Int) (v m : Nat) : List (List Int) := ((List.range m).filter fun u => decide (v < u) && conC P H v u).map (prC v)
def prO (P H : List Int) (N m : Nat) : List (List Int) := (List.range m).flatMap fun v => prI P H v N
theorem prI_succ (P H : List Int) (v m : Nat) : prI P H v (m + 1) = prI P H v m ++ (if decide (v < m) && conC P H v m then [prC v m] else []) := by
  unfold prI
  rw [List.range_succ, List.filter_append, List.map_append]
  cases h : (decide (v < m) && conC P H v m) <;> simp [h]
theorem prI_start (P H : List Int) (v : Nat) : prI P H v (v + 1) = [] := by
  unfold prI
  rw [List.map_eq_nil_iff, List.filter_eq_nil_iff]
  intro u hu
  have := List.mem_range.1 hu
  simp; intro h; omega
theorem prI_len (P H : List Int) (v m : Nat) : (prI P H v m).length ≤ m := by
  unfold prI; rw [List.length_map]; exact Nat.le_trans (List.length_filter_le _ _) (by simp)
theorem prO_succ (P H : List Int) (N m : Nat) : prO P H N (m + 1) = prO P H N m ++ prI P H m N := by unfold prO; rw [List.range_succ, List.flatMap_append]; simp
theorem prO_len (P H : List Int) (N : Nat) : ∀ m, (prO P H N m).length ≤ m * N
  | 0 => by simp [prO]
  | m + 1 => by
    have h1 := prO_len P H N m
    have h2 := prI_len P H m N
    rw [prO_succ, List.length_append, Nat.succ_mul]; omega
theorem prC_good {v u : Nat} (h : v < u) (hu : u ≤ 900) : GoodS (prC v u) := by
  unfold prC
  have l1 : LitS (-(v : Int) - 1) := by unfold LitS; omega
  have l2 : LitS (-(u : Int) - 1) := by unfold LitS; omega
  constructor
  · intro l hl
    simp only [List.mem_cons, List.mem_nil_iff, or_false] at hl
    rcases hl with rfl | rfl
    · exact l1
    · exact l2
  · simp only [List.pairwise_cons, List.mem_singleton, forall_eq, List.mem_nil_iff, false_implies, implies_true, List.Pairwise.nil, and_true]
    unfold AscS
    rw [LitS.abs l1, LitS.abs l2]
    split <;> split <;> omega
/-- The Cnf of a choice. -/
def chN (L : List (List Int)) : Nat := (holT L L.length).length
def chX (L : List (List Int)) : List (List Int) := nodT L L.length ++ prO (pigT L L.length) (holT L L.length) (chN L) (chN L)
end Go.Proofs.Yteabiokhbaekpaa
