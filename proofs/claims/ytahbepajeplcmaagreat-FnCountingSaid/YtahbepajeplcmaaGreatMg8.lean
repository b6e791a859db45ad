/- Lemmas and contracts for a law, put together out of several texts: DgG DgM DgS DgI DgJ DgN DgO DgP DgQ DgR DgT CtM CtN CtT CuA PoolB PlB NumT TxA TxB TxC TxD. -/
import Derived.Test.YtahbepajeplcmaaGreatMg7
import Derived.Test.YtahbepajeplcmaaGreatMg3
import Derived.Shelf.Abstract
import Derived.Test.YtahbepajeplcmaaGreatMg2
import Derived.Deep.DeepCutAuto
import Derived.Deep.CutBlock
import Derived.Test.YtahbepajeplcmaaGreatMg6
import Derived.Test.YtahbepajeplcmaaGreatMg1
import Derived.Test.YtahbepajeplcmaaGreatMg4
import Derived.Lib.QuietBelow
import Derived.BigQuiet
/- Memory: own rows of truth values, stores into own rows, diagrams that can be read. -/
namespace Go.Proofs.YtahbepajeplcmaaGreat
open Go.RowKit

/-- Truth values. -/
def blV (n : Nat) (f : Nat → Bool) : List Value := (List.range n).map fun j => .bool (f j)
def BlAt (w : World) (A : Option Addr) (n : Nat) (f : Nat → Bool) : Prop := ∀ j, j < n → ∃ b off, A = some ⟨b, off, none⟩ ∧ w.cell? ⟨b, off + j, none⟩ = some (.bool (f j))
theorem blV_len (n : Nat) (f : Nat → Bool) : (blV n f).length = n := by simp [blV]
theorem blV_snoc (n : Nat) (f : Nat → Bool) : blV (n + 1) f = blV n f ++ [.bool (f n)] := by simp [blV, List.range_succ]
theorem blV_get {n j : Nat} (f : Nat → Bool) (h : j < n) : (blV n f)[j]? = some (.bool (f j)) := by simp [blV, h]
theorem blV_congr {n : Nat} {f g : Nat → Bool} (h : ∀ j, j < n → f j = g j) : blV n f = blV n g := by
  unfold blV
  exact List.map_congr_left fun j hj => by rw [h j (List.mem_range.1 hj)]
theorem blV_set {n k : Nat} (f : Nat → Bool) (x : Bool) : (blV n f).set k (.bool x) = blV n (fun j => if j = k then x else f j) := by
  apply List.ext_getElem?
  intro j
  rw [List.getElem?_set, blV_len]
  by_cases hj : j < n
  · rw [blV_get _ hj, blV_get _ hj]
    by_cases h : k = j
    · subst h; simp [hj]
    · rw [if_neg h, if_neg (fun e => h e.symm)]
  · rw [List.getElem?_eq_none (by rw [blV_len]; omega), List.getElem?_eq_none (by rw [blV_len]; omega)]
    split
    · rw [if_neg (by omega)]
    · rfl
theorem BlAt.grow {w w' : World} {A : Option Addr} {n : Nat} {f : Nat → Bool} (h : BlAt w A n f) (hb : Below w.heap.size w w') : BlAt w' A n f := fun j hj => by
  obtain ⟨b, off, e, hc⟩ := h j hj
  exact ⟨b, off, e, (bcell hb).1 b _ (World.block_lt_of_cell? _ _ hc) ▸ hc⟩
theorem bl_own {w : World} {B : Nat} {e : TypeId} {v : Value} {n : Nat} {f : Nat → Bool} (h : w.ownsRow B e 1 v n (blV n f)) : ∃ A c, v = .slice A n c ∧ BlAt w A n f := by
  rcases Nat.eq_zero_or_pos n with rfl | hn
  · obtain ⟨a, c, rfl⟩ := own_slice h
    exact ⟨a, c, rfl, fun j hj => absurd hj (by omega)⟩
  · obtain ⟨g, cap, cur, rfl, _, hh, _, _, _, ht⟩ := own_block h hn
    exact ⟨_, cap, rfl, fun j hj => ⟨g, 0, rfl, by rw [Nat.zero_add, hown_cell hh ht (by omega), blV_get f hj]⟩⟩
theorem infoBl : (Tryz.prog.info? 4).map (fun i => (i.zero, i.size, i.bytes)) = some (some (.bool false), 1, 1) := by kernel_rfl
/-- Two results: a diagram, and whether there is one. -/
def DgTold (w : World) (ok : Bool) (r : Int) (ns : List Nd) (e : Ending) (w' : World) : Prop := ∃ A c, e = .returned (.tuple #[dgV r (.slice A ns.length c), .bool ok]) ∧ NdAt w' A ns ∧ (∀ a, A = some a → w.heap.size ≤ a.block) ∧ Below w.heap.size w w'
def outR (ok : Bool) (vars : Int) (f : Nat → Bool) : Int := if ok then dgR vars.toNat f else 0
def outN (ok : Bool) (vars : Int) (f : Nat → Bool) : List Nd := if ok then dgN vars.toNat f else []
theorem NdAt.nil (w : World) : NdAt w none [] := ⟨fun j hj => absurd hj (by simp), by simp⟩
/-- What is known of a valid diagram. -/
theorem good_parts {vars r : Int} {ns : List Nd} (h : goodD vars r ns = true) : (0 ≤ vars ∧ vars ≤ 6) ∧ ns.length ≤ 63 ∧ (0 ≤ r ∧ r ≤ ns.length + 1) ∧ WkN ns := by
  unfold goodD at h
  rw [Bool.and_eq_true, Bool.and_eq_true, Bool.and_eq_true, inB_def, inB_def, decide_eq_true_eq, ndsB_ok] at h
  exact ⟨h.1.1.1, h.1.1.2, h.1.2, OkN.wk h.2⟩
end Go.Proofs.YtahbepajeplcmaaGreat

/- Contracts: valid diagrams, in the reference. -/
namespace Go.Proofs.YtahbepajeplcmaaGreat
open Go.RowKit

/- left out: the seat has no spec.l26Vars -/

/- left out: the seat has no spec.l26Good -/
end Go.Proofs.YtahbepajeplcmaaGreat

/- Contracts: numbers of variables and literals that are drawn. -/
namespace Go.Proofs.YtahbepajeplcmaaGreat
open Go.RowKit

/- left out: the seat has no (*loop.example/g01080/spec.l1Cur).vars26 -/

theorem lit_three {w1 : World} {vars : Int} {g A cl cc : Nat} {ca : Option Addr} (h : CurIs A g ca cl cc w1) (hv : -1 ≤ vars ∧ vars ≤ 7) (hA : A ≤ 80000000) :
    Calls Tryz.prog 20 #[.pointer (some ⟨g, 0, none⟩), .slice (some ⟨w1.heap.size, 0, none⟩) 3 3] (w1.alloc (.cells #[.int .i64 0, .int .i64 (vars + 1), .int .i64 (-vars - 1)] 3)) (CurPost (IntIn (-8) 8) (A + 2) g ca cl cc (w1.alloc (.cells #[.int .i64 0, .int .i64 (vars + 1), .int .i64 (-vars - 1)] 3))) := by
  have hg := h.lt
  refine cur_among (-8) 8 w1.heap.size 0 3 3 A g ca cl cc _ (h.grow (bal (bb _) _)) (by omega) (by decide) (by decide) (ints_new rfl fun j hj => ?_) (by omega)
  match j, hj with
  | 0, _ => exact ⟨_, rfl, by decide, by decide⟩
  | 1, _ => exact ⟨_, rfl, by omega, by omega⟩
  | 2, _ => exact ⟨_, rfl, by omega, by omega⟩

set_option maxRecDepth 100000 in
set_option maxHeartbeats 4000000 in
theorem cur_lit (vars : Int) (hv : -1 ≤ vars ∧ vars ≤ 7) (A g : Nat) (ca : Option Addr) (cl cc : Nat) (w : World) (h : CurIs A g ca cl cc w) (hA : A ≤ 70000000) :
    Calls Tryz.prog 91 #[.pointer (some ⟨g, 0, none⟩), .int .i64 vars] w (CurPost (IntIn (-8) 8) (A + 8) g ca cl cc w) := by
  have hg := h.lt
  have w1' : IntKind.i64.wrap (vars + 1) = vars + 1 := IntWalk.i64_in _ (by omega)
  have w2' : IntKind.i64.wrap (-vars) = -vars := IntWalk.i64_in _ (by omega)
  have w3' : IntKind.i64.wrap (-vars - 1) = -vars - 1 := IntWalk.i64_in _ (by omega)
  have S0 := Lib.hid (CS.start h)
  by_cases hlt : vars < 1
  · have hcall := Lib.hid (lit_three h hv (by omega))
    go_enter Tryz.func91, Tryz.ntmps91
    go_wp2_with fail
    refine hcall.out.mono ?_
    rintro e w2 ⟨_, ⟨z, hz0, hz1, rfl⟩, rfl, hi2, hc2⟩
    have hC := ((S0.out.alloc _).turn hi2 hc2).chg
    clear S0 hc2 hcall
    go_wp2_with fail
    go_ret
    exact ⟨_, ⟨z, hz0, hz1, rfl⟩, rfl, hi2.mono (by omega), hC⟩
  · go_enter Tryz.func91, Tryz.ntmps91
    go_wp2_with fail
    refine (cur_one 40 A g ca cl cc w h (by omega) (by omega)).mono ?_
    rintro e w1 ⟨_, ⟨q, rfl⟩, rfl, hi1, hc1⟩
    have S1 := Lib.hid (S0.out.turn hi1 hc1)
    have hg1 := hi1.lt
    clear S0 hc1
    cases q
    · go_wp2_with fail
      refine (cur_pick_at (lo := 0) (hi := vars - 1) hi1 (by omega) (by omega) (by omega) (by omega) (by omega)).mono ?_
      rintro e w2 ⟨_, ⟨x, hx0, hx1, rfl⟩, rfl, hi2, hc2⟩
      have S2 := Lib.hid (S1.out.turn hi2 hc2)
      have w4 : IntKind.i64.wrap (1 + x) = 1 + x := IntWalk.i64_in _ (by omega)
      have w5 : IntKind.i64.wrap (-(1 + x)) = -(1 + x) := IntWalk.i64_in _ (by omega)
      clear S1 hc2
      go_wp2_with fail
      refine (cur_one 2 _ g ca cl cc _ hi2 (by omega) (by omega)).mono ?_
      rintro e w3 ⟨_, ⟨q, rfl⟩, rfl, hi3, hc3⟩
      have hC := (S2.out.turn hi3 hc3).chg
      clear S2 hc3
      cases q
      · go_wp2_with fail
        go_ret
        exact ⟨_, ⟨1 + x, by omega, by omega, rfl⟩, rfl, hi3.mono (by omega), hC⟩
      · go_wp2_with fail
        go_ret
        exact ⟨_, ⟨-(1 + x), by omega, by omega, rfl⟩, rfl, hi3.mono (by omega), hC⟩
    · have hcall := Lib.hid (lit_three hi1 hv (by omega))
      go_wp2_with fail
      refine hcall.out.mono ?_
      rintro e w2 ⟨_, ⟨z, hz0, hz1, rfl⟩, rfl, hi2, hc2⟩
      have hC := ((S1.out.alloc _).turn hi2 hc2).chg
      clear S1 hc2 hcall
      go_wp2_with fail
      go_ret
      exact ⟨_, ⟨z, hz0, hz1, rfl⟩, rfl, hi2.mono (by omega), hC⟩
end Go.Proofs.YtahbepajeplcmaaGreat

/- Contracts: the and, or and not of diagrams, in the program. -/
namespace Go.Proofs.YtahbepajeplcmaaGreat
open Go.RowKit

/- left out: the seat has no impl.pairDiagram$1 -/

/- left out: the seat has no impl.pairDiagram -/
end Go.Proofs.YtahbepajeplcmaaGreat

/- Contracts: bits that are set, in the program. -/
namespace Go.Proofs.YtahbepajeplcmaaGreat
open Go.RowKit

theorem set_fin : ∀ b < 64, ∀ k < 6, bits .andNot .i64 ((b : Nat) : Int) ((2 ^ k : Nat) : Int) = ((b - (if b.testBit k then 2 ^ k else 0) : Nat) : Int) := by decide +kernel
/-- Bits in which the variable of a literal is set such that the literal is true. -/
def setL (b : Nat) (l : Int) : Nat := if 0 < l then b ||| 2 ^ (l.toNat - 1) else b - (if b.testBit ((-l).toNat - 1) then 2 ^ ((-l).toNat - 1) else 0)
theorem or_set {b : Nat} {l : Int} (hb : b < 64) (h0 : 0 < l) (h1 : l ≤ 6) : bits .or .i64 (b : Int) (wrap64 (2 ^ (l.toNat - 1))) = ((setL b l : Nat) : Int) := by
  obtain ⟨e1, e2⟩ := pow_small (v := l.toNat - 1) (by omega)
  rw [e1, (i64_nat b (2 ^ (l.toNat - 1)) (by omega) (by omega)).1, setL, if_pos h0]
theorem clr_set {b : Nat} {l : Int} (hb : b < 64) (h0 : l < 0) (h1 : -6 ≤ l) : bits .andNot .i64 (b : Int) (wrap64 (2 ^ ((-l).toNat - 1))) = ((setL b l : Nat) : Int) := by
  obtain ⟨e1, e2⟩ := pow_small (v := (-l).toNat - 1) (by omega)
  rw [e1, set_fin b hb ((-l).toNat - 1) (by omega), setL, if_neg (show ¬ 0 < l by omega)]
theorem setL_lt {b vars : Nat} {l : Int} (hb : b < 2 ^ vars) (_ : l ≠ 0) (_ : -(vars : Int) ≤ l) (_ : l ≤ vars) : setL b l < 2 ^ vars := by
  unfold setL
  split
  · exact Nat.or_lt_two_pow hb (Nat.pow_lt_pow_right (by decide) (by omega))
  · omega

/- left out: the seat has no impl.setBit -/

def litD (vars l : Int) : Bool := decide (l ≠ 0) && inB l (-vars) vars
set_option maxRecDepth 100000 in
theorem isLiteralD_any (vars l : Int) (h0 : 0 ≤ vars) (h1 : vars ≤ 1000000) (w : World) : Calls Tryz.prog 63 #[.int .i64 vars, .int .i64 l] w fun e w' => e = .returned (.bool (litD vars l)) ∧ Below w.heap.size w w' := by
  have hw1 : IntKind.i64.wrap (-vars) = -vars := IntWalk.i64_in _ (by omega)
  by_cases hl : l = 0
  · have hF : Hid (litD vars l = false) := by unfold Hid litD; rw [decide_eq_false (by omega)]; rfl
    go_enter Tryz.func63, Tryz.ntmps63
    go_wp2_with fail
    go_ret
    exact ⟨ret_bool hF.out.symm, bb _⟩
  · have hF : Hid (litD vars l = inB l (-vars) vars) := by unfold Hid litD; rw [decide_eq_true hl]; rfl
    go_enter Tryz.func63, Tryz.ntmps63
    go_wp2_with (go_at_call 21; refine (within_any _ _ _ _).mono ?_; rintro e w1 ⟨rfl, rfl⟩)
    go_ret
    exact ⟨ret_bool (by rw [hF.out]; simp [hl]), bb _⟩

/- left out: the seat has no impl.SetInDiagram$1 -/

/- left out: the seat has no impl.ForgetInDiagram$1 -/
end Go.Proofs.YtahbepajeplcmaaGreat

/- Contracts: the values of a diagram, in the reference. -/
namespace Go.Proofs.YtahbepajeplcmaaGreat
open Go.RowKit

/- left out: the seat has no spec.l26Values -/

theorem pow_wrap {v : Nat} (hv : v ≤ 6) : IntKind.i64.wrap ((2 : Int) ^ v) = ((2 ^ v : Nat) : Int) := by
  match v, hv with
  | 0, _ | 1, _ | 2, _ | 3, _ | 4, _ | 5, _ | 6, _ => decide

theorem l2VarD_any (l : Int) (h0 : -6 ≤ l) (h1 : l ≤ 6) (w : World) : Calls Tryz.prog 78 #[.int .i64 l] w fun e w' => e = .returned (.int .i64 (if l < 0 then -l else l)) ∧ w = w' := by
  have hw1 : IntKind.i64.wrap (-l) = -l := IntWalk.i64_in _ (by omega)
  by_cases h : l < 0
  · rw [if_pos h]
    go_enter Tryz.func78, Tryz.ntmps78
    go_wp2_with fail
    go_ret
    exact ⟨rfl, rfl⟩
  · rw [if_neg h]
    go_enter Tryz.func78, Tryz.ntmps78
    go_wp2_with fail
    go_ret
    exact ⟨rfl, rfl⟩
theorem l2LitD_any (vars l : Int) (h0 : 0 ≤ vars) (h1 : vars ≤ 1000000) (w : World) : Calls Tryz.prog 77 #[.int .i64 vars, .int .i64 l] w fun e w' => e = .returned (.bool (litD vars l)) ∧ w = w' := by
  have hw1 : IntKind.i64.wrap (-vars) = -vars := IntWalk.i64_in _ (by omega)
  have hF : Hid (litD vars l = (inB l (-vars) vars && decide (l ≠ 0))) := by unfold Hid litD; rw [Bool.and_comm]
  cases h : inB l (-vars) vars
  all_goals
    rw [h] at hF
    go_enter Tryz.func77, Tryz.ntmps77
    go_wp2_with (go_at_call 26; refine (l1In_any _ _ _ _).mono ?_; rw [h]; rintro e w1 ⟨rfl, rfl⟩)
    go_ret
    exact ⟨ret_bool (by rw [hF.out]; first | rfl | (simp only [bne, decide_not, Bool.true_and]; by_cases e : l = 0 <;> simp [e])), rfl⟩

/- left out: the seat has no spec.l26Set -/
end Go.Proofs.YtahbepajeplcmaaGreat

/- Contracts: the plan of values, in the reference. -/
namespace Go.Proofs.YtahbepajeplcmaaGreat
open Go.RowKit

/- left out: the seat has no impl.BddNode -/

/- left out: the seat has no spec.l26Plan -/
end Go.Proofs.YtahbepajeplcmaaGreat

/- Contracts: the reduced diagram of values, a literal that is set, in the reference. -/
namespace Go.Proofs.YtahbepajeplcmaaGreat
open Go.RowKit

/- left out: the seat has no spec.l26Of -/

/- left out: the seat has no spec.SetInDiagram -/
end Go.Proofs.YtahbepajeplcmaaGreat

/- Contracts: and, or, forget of diagrams, in the reference. -/
namespace Go.Proofs.YtahbepajeplcmaaGreat
open Go.RowKit

def opB (q x y : Bool) : Bool := if q then x && y else x || y
def upto (k : Nat) (g f : Nat → Bool) (j : Nat) : Bool := if j < k then g j else f j
theorem upto_zero (N : Nat) (g f : Nat → Bool) : blV N (upto 0 g f) = blV N f := blV_congr fun j _ => by simp [upto]
theorem upto_all (N : Nat) (g f : Nat → Bool) : blV N (upto N g f) = blV N g := blV_congr fun j hj => by simp [upto, hj]
theorem upto_set (N k : Nat) (g f : Nat → Bool) : (blV N (upto k g f)).set k (.bool (g k)) = blV N (upto (k + 1) g f) := by
  rw [blV_set]
  refine blV_congr fun j _ => ?_
  unfold upto
  by_cases h : j = k
  · subst h; simp
  · rw [if_neg h]
    by_cases h2 : j < k
    · rw [if_pos h2, if_pos (by omega)]
    · rw [if_neg h2, if_neg (by omega)]
theorem upto_at (k : Nat) (g f : Nat → Bool) : upto k g f k = f k := by simp [upto]

/- left out: the seat has no spec.l26Two -/
end Go.Proofs.YtahbepajeplcmaaGreat

/- Contracts: and, or, forget of diagrams, in the reference; the comparison. -/
namespace Go.Proofs.YtahbepajeplcmaaGreat
open Go.RowKit

/- left out: the seat has no spec.AndDiagrams -/

/- left out: the seat has no spec.OrDiagrams -/

/- left out: the seat has no spec.ForgetInDiagram -/

/- left out: the seat has no laws.vDiagram -/
end Go.Proofs.YtahbepajeplcmaaGreat

/- Contracts: diagrams that are drawn. -/
namespace Go.Proofs.YtahbepajeplcmaaGreat
open Go.RowKit

/-- Nodes as they are drawn. -/
def DrOk (ns : List Nd) : Prop := ∀ i (h : i < ns.length), (1 ≤ ns[i].v ∧ ns[i].v ≤ 6) ∧ (0 ≤ ns[i].lo ∧ ns[i].lo ≤ i + 1) ∧ (0 ≤ ns[i].hi ∧ ns[i].hi ≤ i + 1)
theorem DrOk.wk {ns : List Nd} (h : DrOk ns) : WkN ns := fun i hi => ⟨(h i hi).1.1, (h i hi).2⟩
theorem DrOk.small {ns : List Nd} (h : DrOk ns) (hl : ns.length ≤ 1000) : ∀ x ∈ ns, ndOk x := by
  intro x hx
  obtain ⟨i, hi, rfl⟩ := List.getElem_of_mem hx
  obtain ⟨h1, h2, h3⟩ := h i hi
  unfold ndOk I64
  omega
theorem DrOk.snoc {ns : List Nd} {n : Nd} (h : DrOk ns) (hv : 1 ≤ n.v ∧ n.v ≤ 6) (hl : 0 ≤ n.lo ∧ n.lo ≤ ns.length + 1) (hh : 0 ≤ n.hi ∧ n.hi ≤ ns.length + 1) : DrOk (ns ++ [n]) := by
  intro i hi
  rw [List.length_append, List.length_singleton] at hi
  by_cases hlt : i < ns.length
  · rw [List.getElem_append_left hlt]; exact h i hlt
  · obtain rfl : i = ns.length := by omega
    simp only [List.getElem_concat_length]
    exact ⟨hv, hl, hh⟩
theorem dg_dr {n : Nat} (hn : n ≤ 6) (f : Nat → Bool) : DrOk (dgN n f) := fun i hi => by
  obtain ⟨h1, h2, h3, _⟩ := (ndB_get hi).1 ((dg_made n f).ok i hi)
  exact ⟨⟨h1.1, by omega⟩, h2, h3⟩

/- left out: the seat has no impl.Diagram -/

/-- The length of the slice that lies in a diagram. -/
def lenAt (w : World) (b : Nat) : Nat := match w.cell? ⟨b, 1, none⟩ with | some (.slice _ n _) => n | _ => 0
theorem lenAt_of {w : World} {b n c : Nat} {B : Option Addr} (h : w.cell? ⟨b, 1, none⟩ = some (.slice B n c)) : lenAt w b = n := by simp [lenAt, h]
def mostI (a b : Int) : Int := if b < a then a else b
theorem l1Most_any (a b : Int) (w : World) : Calls Tryz.prog 31 #[.int .i64 a, .int .i64 b] w fun e w' => e = .returned (.int .i64 (mostI a b)) ∧ w = w' := by
  unfold mostI
  by_cases h : b < a
  · rw [if_pos h]
    go_enter Tryz.func31, Tryz.ntmps31
    go_wp2_with fail
    go_ret
    exact ⟨rfl, rfl⟩
  · rw [if_neg h]
    go_enter Tryz.func31, Tryz.ntmps31
    go_wp2_with fail
    go_ret
    exact ⟨rfl, rfl⟩

/- left out: the seat has no (*loop.example/g01080/spec.l1Cur).diagram -/
end Go.Proofs.YtahbepajeplcmaaGreat

/- Contract: at least, in the reference. -/
namespace Go.Proofs.YtahbepajeplcmaaGreat
open Go.RowKit

theorem most_nat {n k : Nat} : mostI 0 ((n : Int) - k + 1) = ((n + 1 - k : Nat) : Int) := by
  unfold mostI
  by_cases h : (n : Int) - k + 1 < 0
  · rw [if_pos h]; omega
  · rw [if_neg h]; omega

set_option maxRecDepth 100000 in
set_option maxHeartbeats 8000000 in
theorem specAtLeastYes_any (n k : Nat) (w : World) (hn12 : n ≤ 12) (hk12 : k ≤ 12) :
    Calls Tryz.prog 10 #[.int .i64 n, .int .i64 k] w (CnfR w (giveV n (leastL n k)) (giveL n (leastL n k)) (goodB n (leastL n k))) := by
  have hn := Lib.hid (fun W => l1In_any n 0 12 W)
  have hk := Lib.hid (fun W => l1In_any k 0 12 W)
  rw [show inB (n : Int) 0 12 = true from inB_true.2 ⟨by omega, by omega⟩] at hn
  rw [show inB (k : Int) 0 12 = true from inB_true.2 ⟨by omega, by omega⟩] at hk
  have S0 := (Sp.start w).alloc_box #[.int .i64 0, .slice none 0 0] 28
  replace S0 := Lib.hid S0
  have hnew := Lib.hid (l4New_any n (w.alloc (.cells #[.int .i64 0, .slice none 0 0] 28)))
  rcases Nat.eq_zero_or_pos k with rfl | hk0
  · rw [leastL_zero, (give_yes (good_none hn12)).1, (give_yes (good_none hn12)).2, good_none hn12]
    go_enter Tryz.func10, Tryz.ntmps10
    go_wp2_with fail
    refine (hn.out _).mono ?_
    rintro e w1 ⟨rfl, rfl⟩
    go_wp2_with fail
    refine (hk.out _).mono ?_
    rintro e w1 ⟨rfl, rfl⟩
    clear hn hk
    go_wp2_with fail
    refine hnew.out.mono ?_
    rintro e w1 ⟨B, c, rfl, T⟩
    have S1 := S0.out.seq T
    have r0 := S1.cell (i := 1) rfl (o := 0) rfl
    have r1 := S1.cell (i := 1) rfl (o := 1) rfl
    have f0 := S1.frozen (i := 1) rfl 0
    have f1 := S1.frozen (i := 1) rfl 1
    have SF := (S1.store (i := 1) rfl 0 (.int .i64 n)).store (i := 1) rfl 1 (.slice B 0 c)
    have j0 := SF.cell (i := 1) rfl (o := 0) rfl
    have j1 := SF.cell (i := 1) rfl (o := 1) rfl
    have SF2 := Lib.hid (Sp.pick [0] SF rfl)
    clear S0 T S1 SF hnew
    go_wp2_with fail
    refine bodyPost_ret (v := .tuple #[.agg #[.int .i64 n, .slice B 0 c], .bool true]) (by simp [results, Tryz.results10, go_sem, j0, j1]) rfl ?_
    obtain ⟨F, hr, -, -⟩ := SF2.out.rows_done (xss := []) (i := 0) rfl
    exact ⟨B, c, F, rfl, Ty.row_down hr, SF2.out.below⟩
  · have hk1 : ((k : Int) == 0) = false := beq_eq_false_iff_ne.2 (by omega)
    have hk2 : decide ((k : Int) = 0) = false := decide_eq_false (by omega)
    have hw0 : IntKind.i64.wrap ((n : Int) - k) = (n : Int) - k := IntWalk.i64_in _ (by omega)
    have hw1 : IntKind.i64.wrap ((n : Int) - k + 1) = (n : Int) - k + 1 := IntWalk.i64_in _ (by omega)
    have hmx := Lib.hid (fun W => l1Most_any 0 ((n : Int) - k + 1) W)
    rw [most_nat] at hmx
    have hmd : n + 1 - k ≤ 12 := by omega
    have hgs := least_gs (n := n) hk0
    generalize n + 1 - k = m at *
    go_enter Tryz.func10, Tryz.ntmps10
    go_wp2_with fail
    refine (hn.out _).mono ?_
    rintro e w1 ⟨rfl, rfl⟩
    go_wp2_with fail
    refine (hk.out _).mono ?_
    rintro e w1 ⟨rfl, rfl⟩
    clear hn hk
    go_wp2_with fail
    refine hnew.out.mono ?_
    rintro e w1 ⟨B, c, rfl, T⟩
    have S1 := S0.out.seq T
    have S2 := (S1.own_made 3 1).swap
    have hch := choose_any 1 (.inl rfl) n hn12 m (by omega) [] 1 (some ⟨w1.heap.size, 0, none⟩) 0 B c [] [] w _ [Box w.heap.size 28 #[.int .i64 0, .slice none 0 0]] (by omega) (by omega) ⟨by simp, by simp⟩ (by simp) (by rw [nextA_nil]; omega) (by simp) S2
    rw [hgs] at hch
    simp only [List.length_nil, show ((1 : Nat) : Int) = 1 from rfl] at hch
    replace hch := Lib.hid hch
    have S3 := Lib.hid S1
    clear hnew S0 T S1 S2 hgs
    generalize hML : leastL n k = ML at *
    go_wp2_with fail
    refine (hmx.out _).mono ?_
    rintro e w9 ⟨rfl, rfl⟩
    go_wp2_with fail
    refine hch.out.mono ?_
    rintro e w2 ⟨B', c', cs', rfl, S4⟩
    obtain ⟨F, hr, -, -⟩ := S4.rows_done (i := 0) rfl
    have hgv := Lib.hid (l4Give_any n B' c' ML F w2 (Ty.row_down hr))
    replace S4 := Lib.hid S4
    clear hch hr S3
    go_wp2_with fail
    refine hgv.out.mono ?_
    rintro e w3 ⟨va, A', n', c'', rfl, hb4, h1, h2⟩
    have S5 := S4.out.grow hb4
    replace h1 := Lib.hid h1
    replace h2 := Lib.hid h2
    have r0 := S5.cell (i := 2) rfl (o := 0) rfl
    have r1 := S5.cell (i := 2) rfl (o := 1) rfl
    have f0 := S5.frozen (i := 2) rfl 0
    have f1 := S5.frozen (i := 2) rfl 1
    have SF := (S5.store (i := 2) rfl 0 (.int .i64 va)).store (i := 2) rfl 1 (.slice A' n' c'')
    have j0 := SF.cell (i := 2) rfl (o := 0) rfl
    have j1 := SF.cell (i := 2) rfl (o := 1) rfl
    have SF2 := Lib.hid (Sp.pick [0] SF rfl)
    clear S4 S5 SF hgv hb4
    generalize hgo : goodB (n : Int) ML = g at *
    go_wp2_with fail
    subst hgo
    exact bodyPost_ret (v := .tuple #[.agg #[.int .i64 va, .slice A' n' c''], .bool (goodB n ML)]) (by simp [results, Tryz.results10, go_sem, j0, j1]) rfl (CnfR.of SF2.out h1.out h2.out)
end Go.Proofs.YtahbepajeplcmaaGreat

/- Contract: a clause with its variables shifted, in the program. -/
namespace Go.Proofs.YtahbepajeplcmaaGreat
open Go.RowKit

/-- A literal whose variable is greater. -/
def shV (k l : Int) : Int := if 0 < l then l + k else l - k

set_option maxRecDepth 100000 in
set_option maxHeartbeats 4000000 in
theorem shifted_any (by' : Int) (hby : 0 ≤ by' ∧ by' ≤ 12) (xs : List Int) (A : Option Addr) (cap : Nat) (w : World) (hx : IntsAt w A xs) (hl : xs.length ≤ 1000) (hb : ∀ x ∈ xs, -1000 ≤ x ∧ x ≤ 1000) :
    Calls Tryz.prog 50 #[.slice A xs.length cap, .int .i64 by'] w fun e w' => ∃ B c, e = .returned (.slice B xs.length c) ∧ Sp w w' [Own 3 1 (.slice B xs.length c) xs.length ((xs.map (shV by')).map (.int .i64))] := by
  obtain ⟨i0, hi0, hy0, hy1, hy2⟩ := info_parts infoInt
  have S0 := Lib.hid ((Sp.start w).own_nil 3 1)
  have hX := Lib.hid hx
  have hB := Lib.hid hb
  clear hx hb
  obtain ⟨m, hm⟩ : ∃ m, xs.length = m := ⟨_, rfl⟩
  rw [hm] at hl ⊢
  replace hm := Lib.hid hm
  go_enter Tryz.func50, Tryz.ntmps50
  go_wp2_with fail
  go_loopw [5, 10] (fun o i wr => ∃ (j : Nat) (D : Option Addr) (c : Nat) (zs : List Int), j ≤ m ∧ i = .int .i64 j ∧ o = .slice D j c ∧ Hid (zs = (xs.take j).map (shV by')) ∧ Hid (Sp w wr [Own 3 1 (.slice D j c) j (zs.map (.int .i64))])) (fun _ i _ => m - (intOf i).toNat)
  case atStart => exact ⟨0, none, 0, [], Nat.zero_le _, rfl, rfl, rfl, S0⟩
  case round =>
    clear S0
    obtain ⟨j, D, c, zs, hj, rfl, rfl, hz, HS⟩ := hrel
    by_cases hlt : j < m
    · have hjx : j < xs.length := by rw [hm.out]; exact hlt
      obtain ⟨b, off, rfl, m0⟩ := (hX.out.grow HS.out.below).at_ j hjx
      have hxj := hB.out _ (List.getElem_mem hjx)
      have hz2 : Hid (zs ++ [shV by' xs[j]] = (xs.take (j + 1)).map (shV by')) := by
        unfold Hid
        rw [hz.out, List.take_succ_eq_append_getElem hjx, List.map_append]
        rfl
      generalize xs[j] = x at *
      by_cases hp : 0 < x
      · have hd : decide ((0 : Int) < x) = true := decide_eq_true hp
        have hs : shV by' x = (x + by') := if_pos hp
        rw [hs] at hz2
        have hw : IntKind.i64.wrap (x + by') = (x + by') := IntWalk.i64_in _ (by omega)
        have hji : (j : Int) < m := by omega
        have S7 := HS.out.alloc_box #[.int .i64 (x + by')] 3
        have kB := S7.cell (i := 0) rfl (o := 0) rfl
        replace S7 := Lib.hid S7
        clear HS hz
        go_wp2_with (at_builtin; refine wpList_append_src rfl _ _ rfl Tryz.underlying35 hi0 hy0 hy1 hy2 rfl (by decide) _ j _ rfl (S7.out.own (i := 1) rfl) _ 1 1 [.int .i64 (x + by')] rfl (Src.one kB) (by simp [Value.oneCell']) ?c3 ?c4 ?_)
        case c3 => unfold maxLen; omega
        case c4 => omega
        intro vE wE hownE hgE hatE
        have S8 := (S7.out.own_push (i := 1) rfl (bb _) hownE hgE (by simpa using hatE)).tail
        obtain ⟨aE, cE, rfl⟩ := own_slice hownE
        have hfl : zs.map (Value.int .i64) ++ [.int .i64 (x + by')] = (zs ++ [x + by']).map (.int .i64) := by simp
        simp only [List.set_cons_zero, List.set_cons_succ] at S8
        rw [hfl] at S8
        replace S8 := Lib.hid S8
        generalize zs ++ [x + by'] = zs2 at *
        clear S7 kB hownE hgE hatE m0 hfl hw
        go_wp2_with fail
        go_roundw
        case rel => exact ⟨j + 1, aE, cE, zs2, by omega, by go_num, rfl, hz2, S8⟩
        case measure => simp [intOf]; omega
      · have hd : decide ((0 : Int) < x) = false := decide_eq_false hp
        have hs : shV by' x = (x - by') := if_neg hp
        rw [hs] at hz2
        have hw : IntKind.i64.wrap (x - by') = (x - by') := IntWalk.i64_in _ (by omega)
        have hji : (j : Int) < m := by omega
        have S7 := HS.out.alloc_box #[.int .i64 (x - by')] 3
        have kB := S7.cell (i := 0) rfl (o := 0) rfl
        replace S7 := Lib.hid S7
        clear HS hz
        go_wp2_with (at_builtin; refine wpList_append_src rfl _ _ rfl Tryz.underlying35 hi0 hy0 hy1 hy2 rfl (by decide) _ j _ rfl (S7.out.own (i := 1) rfl) _ 1 1 [.int .i64 (x - by')] rfl (Src.one kB) (by simp [Value.oneCell']) ?c3 ?c4 ?_)
        case c3 => unfold maxLen; omega
        case c4 => omega
        intro vE wE hownE hgE hatE
        have S8 := (S7.out.own_push (i := 1) rfl (bb _) hownE hgE (by simpa using hatE)).tail
        obtain ⟨aE, cE, rfl⟩ := own_slice hownE
        have hfl : zs.map (Value.int .i64) ++ [.int .i64 (x - by')] = (zs ++ [x - by']).map (.int .i64) := by simp
        simp only [List.set_cons_zero, List.set_cons_succ] at S8
        rw [hfl] at S8
        replace S8 := Lib.hid S8
        generalize zs ++ [x - by'] = zs2 at *
        clear S7 kB hownE hgE hatE m0 hfl hw
        go_wp2_with fail
        go_roundw
        case rel => exact ⟨j + 1, aE, cE, zs2, by omega, by go_num, rfl, hz2, S8⟩
        case measure => simp [intOf]; omega
    · obtain rfl : j = m := by omega
      have hz3 : zs = xs.map (shV by') := by rw [hz.out, ← hm.out, List.take_length]
      subst hz3
      clear hz
      go_wp2_with fail
      go_ret
      exact ⟨D, c, rfl, HS.out⟩
end Go.Proofs.YtahbepajeplcmaaGreat

/- Plain: the models of parities and of Cnfs apart. -/
namespace Go.Proofs.YtahbepajeplcmaaGreat
open Go.RowKit

/-- All clauses with a literal of each of some variables. -/
def sgR : List Int → List (List Int)
  | [] => [[]]
  | v :: L => (sgR L).map (v :: ·) ++ (sgR L).map (-v :: ·)
/-- The number of negative literals. -/
def ngC (c : List Int) : Nat := (c.filter fun l => decide (l < 0)).length
def xorL (L : List Int) (odd : Bool) : List (List Int) := (sgR L).filter fun c => (ngC c % 2 == 0) == odd
/-- The parity of the variables that are true. -/
def parL (L : List Int) (b : Nat) : Bool := L.foldr (fun v q => xor (b.testBit (v.natAbs - 1)) q) false
theorem parL_cons (v : Int) (L : List Int) (b : Nat) : parL (v :: L) b = xor (b.testBit (v.natAbs - 1)) (parL L b) := rfl
theorem ng_pos {v : Int} (h : 0 < v) (c : List Int) : ngC (v :: c) = ngC c := by
  unfold ngC; rw [List.filter_cons, if_neg (by simp; omega)]
theorem ng_neg {v : Int} (h : 0 < v) (c : List Int) : ngC (-v :: c) = ngC c + 1 := by
  unfold ngC; rw [List.filter_cons, if_pos (by simp; omega)]; rfl
theorem litX_pos {v : Int} (h : 0 < v) (b : Nat) : litT b v = b.testBit (v.natAbs - 1) := by
  unfold litT; rw [show decide (0 < v) = true from decide_eq_true h]; simp
theorem litX_neg {v : Int} (h : 0 < v) (b : Nat) : litT b (-v) = !(b.testBit (v.natAbs - 1)) := by
  unfold litT; rw [show decide (0 < -v) = false from decide_eq_false (by omega), Int.natAbs_neg]; simp
theorem odd_next (n : Nat) : ((n + 1) % 2 == 0) = !(n % 2 == 0) := by
  rcases Nat.mod_two_eq_zero_or_one n with h | h
  · rw [show (n + 1) % 2 = 1 by omega, h]; rfl
  · rw [show (n + 1) % 2 = 0 by omega, h]; rfl
theorem xor_all : ∀ {L : List Int}, (∀ v ∈ L, 0 < v) → ∀ (odd : Bool) (b : Nat), (∀ c ∈ sgR L, ((ngC c % 2 == 0) == odd) = true → clT c b = true) ↔ parL L b = odd
  | [], _, odd, b => by
    simp only [sgR, List.mem_singleton, forall_eq, ngC, clT, parL]
    cases odd <;> simp
  | v :: L, h, odd, b => by
    have ih := fun q => xor_all (L := L) (fun x hx => h x (List.mem_cons_of_mem _ hx)) q b
    have hv := h v List.mem_cons_self
    have e : (∀ c ∈ sgR (v :: L), ((ngC c % 2 == 0) == odd) = true → clT c b = true) ↔ (∀ c ∈ sgR L, ((ngC c % 2 == 0) == odd) = true → clT (v :: c) b = true) ∧ (∀ c ∈ sgR L, ((ngC (-v :: c) % 2 == 0) == odd) = true → clT (-v :: c) b = true) := by
      rw [show sgR (v :: L) = (sgR L).map (v :: ·) ++ (sgR L).map (-v :: ·) from rfl]
      constructor
      · intro h2
        refine ⟨fun c hc hp => h2 _ (List.mem_append.2 (.inl (List.mem_map.2 ⟨c, hc, rfl⟩))) (by rw [ng_pos hv]; exact hp), fun c hc hp => h2 _ (List.mem_append.2 (.inr (List.mem_map.2 ⟨c, hc, rfl⟩))) hp⟩
      · rintro ⟨h2, h3⟩ c hc hp
        rcases List.mem_append.1 hc with hc | hc
        · obtain ⟨d, hd, rfl⟩ := List.mem_map.1 hc
          exact h2 d hd (by rw [ng_pos hv] at hp; exact hp)
        · obtain ⟨d, hd, rfl⟩ := List.mem_map.1 hc
          exact h3 d hd hp
    have hc1 : ∀ c, clT (v :: c) b = (b.testBit (v.natAbs - 1) || clT c b) := fun c => by unfold clT; rw [List.any_cons, litX_pos hv]
    have hc2 : ∀ c, clT (-v :: c) b = (!(b.testBit (v.natAbs - 1)) || clT c b) := fun c => by unfold clT; rw [List.any_cons, litX_neg hv]
    rw [e, parL_cons]
    cases hb : b.testBit (v.natAbs - 1)
    · simp only [hc1, hc2, hb, Bool.false_or, Bool.not_false, Bool.true_or, implies_true, and_true, Bool.false_xor]
      exact ih odd
    · simp only [hc1, hc2, hb, Bool.false_or, Bool.not_true, Bool.true_or, implies_true, true_and, Bool.true_xor, ng_neg hv, odd_next]
      have e2 : ∀ c : List Int, ((!(ngC c % 2 == 0)) == odd) = ((ngC c % 2 == 0) == !odd) := fun c => by cases (ngC c % 2 == 0) <;> cases odd <;> rfl
      simp only [e2]
      rw [ih (!odd)]
      cases parL L b <;> cases odd <;> simp
theorem mod_xor {L : List Int} (h : ∀ v ∈ L, 0 < v) (odd : Bool) (b : Nat) : modT (xorL L odd) b = (parL L b == odd) := by
  rw [Bool.eq_iff_iff, beq_iff_eq, ← xor_all h]
  unfold modT xorL
  rw [List.all_eq_true]
  constructor
  · intro h2 c hc hp; exact h2 c (List.mem_filter.2 ⟨hc, hp⟩)
  · intro h2 c hc
    obtain ⟨h3, h4⟩ := List.mem_filter.1 hc
    exact h2 c h3 h4
theorem par_low {n : Nat} : ∀ {L : List Int}, (∀ v ∈ L, 1 ≤ v ∧ v ≤ (n : Int) + 1) → L.Nodup → ∀ {b : Nat}, b < 2 ^ n → parL L (2 ^ n + b) = xor (parL L b) (decide ((n : Int) + 1 ∈ L))
  | [], _, _, b, _ => by simp [parL]
  | v :: L, h, hn, b, hb => by
    rw [List.nodup_cons] at hn
    have ih := par_low (L := L) (fun x hx => h x (List.mem_cons_of_mem _ hx)) hn.2 hb
    have hv := h v List.mem_cons_self
    rw [parL_cons, parL_cons, ih]
    by_cases e : v = (n : Int) + 1
    · have h1 : (2 ^ n + b).testBit (v.natAbs - 1) = true := by
        rw [show v.natAbs - 1 = n by omega, Nat.testBit_two_pow_add_eq, Nat.testBit_lt_two_pow hb]; rfl
      have h2 : b.testBit (v.natAbs - 1) = false := by rw [show v.natAbs - 1 = n by omega, Nat.testBit_lt_two_pow hb]
      have h3 : decide ((n : Int) + 1 ∈ L) = false := decide_eq_false (by rw [← e]; exact hn.1)
      have h4 : decide ((n : Int) + 1 ∈ v :: L) = true := decide_eq_true (by rw [e]; exact List.mem_cons_self)
      rw [h1, h2, h3, h4]
      cases parL L b <;> rfl
    · have h1 : (2 ^ n + b).testBit (v.natAbs - 1) = b.testBit (v.natAbs - 1) := Nat.testBit_two_pow_add_gt (by omega) _
      have h4 : decide ((n : Int) + 1 ∈ v :: L) = decide ((n : Int) + 1 ∈ L) := by
        simp only [List.mem_cons, show ((n : Int) + 1 = v) = False from eq_false (fun h => e h.symm), false_or]
      rw [h1, h4]
      cases b.testBit (v.natAbs - 1) <;> cases parL L b <;> cases decide ((n : Int) + 1 ∈ L) <;> rfl
theorem cntW_not (p : Nat → Bool) : ∀ N, cntP p N + cntP (fun b => !(p b)) N = N
  | 0 => by simp [cntP]
  | N + 1 => by
    have ih := cntW_not p N
    cases e : p N
    · rw [cntP_no e, cntP_yes (p := fun b => !(p b)) (by simp [e])]; omega
    · rw [cntP_yes e, cntP_no (p := fun b => !(p b)) (by simp [e])]; omega
/-- Half of the assignments have a parity. -/
theorem par_half : ∀ (n : Nat) {L : List Int}, L ≠ [] → (∀ v ∈ L, 1 ≤ v ∧ v ≤ (n : Int)) → L.Nodup → ∀ odd, 2 * cntP (fun b => parL L b == odd) (2 ^ n) = 2 ^ n
  | 0, L, hne, h, _, odd => by
    obtain ⟨v, hv⟩ := List.exists_mem_of_ne_nil L hne
    have := h v hv; omega
  | n + 1, L, hne, h, hn, odd => by
    have hp : 2 ^ (n + 1) = 2 ^ n + 2 ^ n := by rw [Nat.pow_succ]; omega
    rw [hp, cnt_split]
    have hr : ∀ v ∈ L, 1 ≤ v ∧ v ≤ (n : Int) + 1 := fun v hv => by have := h v hv; omega
    have hc := cntW_congr (p := fun i => parL L (2 ^ n + i) == odd) (q := fun b => xor (parL L b) (decide ((n : Int) + 1 ∈ L)) == odd) (N := 2 ^ n) (fun b hb => by rw [par_low hr hn hb])
    rw [hc]
    by_cases e : (n : Int) + 1 ∈ L
    · have h2 := cntW_congr (p := fun b => xor (parL L b) (decide ((n : Int) + 1 ∈ L)) == odd) (q := fun b => !(parL L b == odd)) (N := 2 ^ n) (fun b _ => by
        rw [decide_eq_true e]; cases parL L b <;> cases odd <;> rfl)
      rw [h2, cntW_not]; omega
    · have h2 := cntW_congr (p := fun b => xor (parL L b) (decide ((n : Int) + 1 ∈ L)) == odd) (q := fun b => parL L b == odd) (N := 2 ^ n) (fun b _ => by
        rw [decide_eq_false e]; cases parL L b <;> cases odd <;> rfl)
      have ih := par_half n hne (fun v hv => ⟨(hr v hv).1, by
        have h3 := (hr v hv).2
        have h4 : v ≠ (n : Int) + 1 := fun e2 => e (e2 ▸ hv)
        omega⟩) hn odd
      rw [h2]; omega
/-- The clauses of g with greater variables. -/
theorem litT_high {k : Nat} {l : Int} (h0 : l ≠ 0) (a b : Nat) (ha : a < 2 ^ k) : litT (2 ^ k * b + a) (if 0 < l then l + k else l - k) = litT b l := by
  unfold litT
  have h1 : ∀ j, (2 ^ k * b + a).testBit (k + j) = b.testBit j := fun j => by
    rw [Nat.testBit_two_pow_mul_add b ha, if_neg (by omega)]
    congr 1; omega
  split
  · rename_i h
    rw [show (l + k).natAbs - 1 = k + (l.natAbs - 1) by omega, h1, decide_eq_true h, decide_eq_true (show 0 < l + k by omega)]
  · rename_i h
    rw [show (l - k).natAbs - 1 = k + (l.natAbs - 1) by omega, h1, decide_eq_false h, decide_eq_false (show ¬ 0 < l - k by omega)]
theorem litT_low {k : Nat} {l : Int} (h0 : l ≠ 0) (h1 : l.natAbs ≤ k) (a b : Nat) (ha : a < 2 ^ k) : litT (2 ^ k * b + a) l = litT a l := by
  unfold litT
  rw [Nat.testBit_two_pow_mul_add b ha, if_pos (by omega)]
theorem cnt_apart (p q : Nat → Bool) (K : Nat) : ∀ N, cntP (fun i => q (i % K) && p (i / K)) (K * N) = cntP q K * cntP p N
  | 0 => by simp [cntP]
  | N + 1 => by
    have ih := cnt_apart p q K N
    rw [Nat.mul_succ, cnt_split, ih]
    have e : cntP (fun i => q ((K * N + i) % K) && p ((K * N + i) / K)) K = cntP (fun i => q i && p N) K := cntW_congr fun b hb => by
      rw [Nat.mul_add_mod, Nat.mod_eq_of_lt hb, Nat.mul_add_div (by omega), Nat.div_eq_of_lt hb, Nat.add_zero]
    rw [e]
    cases h : p N
    · have : cntP (fun i => q i && false) K = 0 := by simp [cntP]
      rw [cntP_no h, this]; omega
    · have : cntP (fun i => q i && true) K = cntP q K := by simp
      rw [cntP_yes h, this, Nat.mul_succ]
theorem any_congr {α : Type} {p q : α → Bool} : ∀ {l : List α}, (∀ x ∈ l, p x = q x) → l.any p = l.any q
  | [], _ => rfl
  | x :: l, h => by rw [List.any_cons, List.any_cons, h x List.mem_cons_self, any_congr fun y hy => h y (List.mem_cons_of_mem _ hy)]
theorem mod_apart {k : Nat} {xss yss : List (List Int)} (hx : ∀ c ∈ xss, ∀ l ∈ c, l ≠ 0 ∧ l.natAbs ≤ k) (hy : ∀ c ∈ yss, ∀ l ∈ c, l ≠ 0) (i : Nat) : modT (xss ++ yss.map fun c => c.map (shV k)) i = (modT xss (i % 2 ^ k) && modT yss (i / 2 ^ k)) := by
  have hlt : i % 2 ^ k < 2 ^ k := Nat.mod_lt _ (Nat.two_pow_pos k)
  have hi : 2 ^ k * (i / 2 ^ k) + i % 2 ^ k = i := Nat.div_add_mod i (2 ^ k)
  unfold modT
  rw [List.all_append, List.all_map]
  congr 1
  · rw [Bool.eq_iff_iff, List.all_eq_true, List.all_eq_true]
    have e : ∀ c ∈ xss, clT c i = clT c (i % 2 ^ k) := fun c hc => any_congr fun l hl => by
      have h := hx c hc l hl
      conv => lhs; rw [← hi]
      exact litT_low h.1 h.2 _ _ hlt
    exact ⟨fun h c hc => by rw [← e c hc]; exact h c hc, fun h c hc => by rw [e c hc]; exact h c hc⟩
  · rw [Bool.eq_iff_iff, List.all_eq_true, List.all_eq_true]
    have e : ∀ c ∈ yss, ((fun c => clT c i) ∘ fun c => List.map (shV k) c) c = clT c (i / 2 ^ k) := fun c hc => by
      show (c.map (shV k)).any (litT i) = c.any (litT (i / 2 ^ k))
      rw [List.any_map]
      exact any_congr fun l hl => by
        have h := hy c hc l hl
        show litT i (shV k l) = _
        conv => lhs; rw [← hi]
        exact litT_high h _ _ hlt
    exact ⟨fun h c hc => by rw [← e c hc]; exact h c hc, fun h c hc => by rw [e c hc]; exact h c hc⟩
end Go.Proofs.YtahbepajeplcmaaGreat

/- Plain: all clauses over some variables; parities among them. -/
namespace Go.Proofs.YtahbepajeplcmaaGreat
open Go.RowKit

/-- The c-th clause over the first n variables of a list: the bits of c, the last one for the last variable, tell the signs. -/
def rowG (L : List Int) (n c : Nat) : List Int := (List.range n).map fun (j : Nat) => if c.testBit (n - (j + 1)) then -(L.getD j 0) else L.getD j 0
theorem rowG_len (L : List Int) (n c : Nat) : (rowG L n c).length = n := by simp [rowG]
theorem rowG_snoc (L : List Int) (n c : Nat) : rowG L (n + 1) (2 * c) = rowG L n c ++ [L.getD n 0] ∧ rowG L (n + 1) (2 * c + 1) = rowG L n c ++ [-(L.getD n 0)] := by
  unfold rowG
  rw [List.range_succ, List.map_append, List.map_append]
  have key : ∀ (d j : Nat), j < n → d / 2 = c → d.testBit (n + 1 - (j + 1)) = c.testBit (n - (j + 1)) := fun d j hj hd => by
    rw [show n + 1 - (j + 1) = (n - (j + 1)) + 1 by omega, Nat.testBit_succ, hd]
  constructor
  · congr 1
    · exact List.map_congr_left fun j hj => by rw [key (2 * c) j (List.mem_range.1 hj) (by omega)]
    · simp [Nat.testBit_zero]
  · congr 1
    · exact List.map_congr_left fun j hj => by rw [key (2 * c + 1) j (List.mem_range.1 hj) (by omega)]
    · simp [Nat.testBit_zero]
def sgnG (L : List Int) (n : Nat) : List (List Int) := (List.range (2 ^ n)).map (rowG L n)
theorem sgnG_len (L : List Int) (n : Nat) : (sgnG L n).length = 2 ^ n := by simp [sgnG]
theorem sgnG_get {L : List Int} {n c : Nat} (h : c < (sgnG L n).length) : (sgnG L n)[c] = rowG L n c := by simp [sgnG]
def sgnH (L : List Int) (n c : Nat) : List (List Int) := (List.range c).flatMap fun i => [rowG L n i ++ [L.getD n 0], rowG L n i ++ [-(L.getD n 0)]]
theorem sgnH_zero (L : List Int) (n : Nat) : sgnH L n 0 = [] := rfl
theorem sgnH_succ (L : List Int) (n c : Nat) : sgnH L n (c + 1) = sgnH L n c ++ [rowG L n c ++ [L.getD n 0], rowG L n c ++ [-(L.getD n 0)]] := by simp [sgnH, List.range_succ]
theorem sgnH_eq (L : List Int) (n : Nat) : ∀ c, sgnH L n c = (List.range (2 * c)).map (rowG L (n + 1))
  | 0 => rfl
  | c + 1 => by
    rw [sgnH_succ, sgnH_eq L n c, show 2 * (c + 1) = 2 * c + 1 + 1 by omega, List.range_succ, List.range_succ, (rowG_snoc L n c).1.symm, (rowG_snoc L n c).2.symm]
    simp
theorem sgnH_all (L : List Int) (n : Nat) : sgnH L n (2 ^ n) = sgnG L (n + 1) := by
  rw [sgnH_eq, sgnG, Nat.pow_succ, Nat.mul_comm]
theorem rowG_cons (v : Int) (L : List Int) (n c : Nat) : rowG (v :: L) (n + 1) c = (if c.testBit n then -v else v) :: rowG L n c := by
  unfold rowG
  rw [List.range_succ_eq_map, List.map_cons, List.map_map]
  congr 1
  refine List.map_congr_left fun j hj => ?_
  simp only [Function.comp, List.getD_cons_succ]
  rw [show n + 1 - (j.succ + 1) = n - (j + 1) by omega]
theorem rowG_high (L : List Int) (n c : Nat) : rowG L n (2 ^ n + c) = rowG L n c := by
  unfold rowG
  refine List.map_congr_left fun j hj => ?_
  have := List.mem_range.1 hj
  rw [Nat.testBit_two_pow_add_gt (by omega)]
theorem range_two (n : Nat) : List.range (n + n) = List.range n ++ (List.range n).map (n + ·) := List.range_add
theorem sgnG_sgR : ∀ L : List Int, sgnG L L.length = sgR L
  | [] => by simp [sgnG, rowG, sgR]
  | v :: L => by
    rw [show sgR (v :: L) = (sgR L).map (v :: ·) ++ (sgR L).map (-v :: ·) from rfl, ← sgnG_sgR L]
    unfold sgnG
    rw [List.length_cons, show 2 ^ (L.length + 1) = 2 ^ L.length + 2 ^ L.length by rw [Nat.pow_succ]; omega, range_two, List.map_append, List.map_map, List.map_map, List.map_map]
    congr 1
    · refine List.map_congr_left fun c hc => ?_
      have hc := List.mem_range.1 hc
      rw [rowG_cons, Nat.testBit_lt_two_pow hc]; rfl
    · refine List.map_congr_left fun c hc => ?_
      have hc := List.mem_range.1 hc
      simp only [Function.comp]
      rw [rowG_cons, rowG_high, Nat.testBit_two_pow_add_eq, Nat.testBit_lt_two_pow hc]; rfl
/-- The parity clauses among the first k signings. -/
def xorK (L : List Int) (odd : Bool) (k : Nat) : List (List Int) := ((List.range k).map (rowG L L.length)).filter fun c => (ngC c % 2 == 0) == odd
theorem xorK_succ (L : List Int) (odd : Bool) (k : Nat) : xorK L odd (k + 1) = if ((ngC (rowG L L.length k) % 2 == 0) == odd) = true then xorK L odd k ++ [rowG L L.length k] else xorK L odd k := by
  unfold xorK
  rw [List.range_succ, List.map_append, List.filter_append, List.map_cons, List.map_nil, List.filter_cons]
  split
  · rfl
  · simp
theorem xorK_all (L : List Int) (odd : Bool) : xorK L odd (2 ^ L.length) = xorL L odd := by
  unfold xorK xorL
  rw [← sgnG_sgR]; rfl
theorem xorK_len (L : List Int) (odd : Bool) (k : Nat) : (xorK L odd k).length ≤ k := by
  unfold xorK
  exact Nat.le_trans (List.length_filter_le _ _) (by simp)
theorem ngC_take {c : List Int} {k : Nat} (h : k < c.length) : ngC (c.take (k + 1)) = ngC (c.take k) + if c[k] < 0 then 1 else 0 := by
  unfold ngC
  rw [List.take_succ_eq_append_getElem h, List.filter_append, List.length_append, List.filter_cons]
  by_cases h2 : c[k] < 0 <;> simp [h2]
theorem ngC_le (c : List Int) : ngC c ≤ c.length := List.length_filter_le _ _
theorem rowG_ok {L : List Int} (h : ∀ x ∈ L, 1 ≤ x ∧ x ≤ 12) (n c : Nat) : ∀ y ∈ rowG L n c, -12 ≤ y ∧ y ≤ 12 := fun y hy => by
  unfold rowG at hy
  obtain ⟨j, -, rfl⟩ := List.mem_map.1 hy
  have h2 : 0 ≤ L.getD j 0 ∧ L.getD j 0 ≤ 12 := by
    rw [List.getD_eq_getElem?_getD]
    rcases Nat.lt_or_ge j L.length with hj | hj
    · rw [List.getElem?_eq_getElem hj]
      have := h _ (List.getElem_mem hj)
      exact ⟨by simp; omega, by simp; omega⟩
    · rw [List.getElem?_eq_none hj]; simp
  split <;> omega
end Go.Proofs.YtahbepajeplcmaaGreat

/- Memory facts: rows of numbers that are only read, and own rows that point to them. (The front of NxD, for seats without its functions: never with NxD.) -/
namespace Go.Proofs.YtahbepajeplcmaaGreat
open Go.RowKit

/-- Rows of numbers that are only read, with all that they reach. -/
def Pool (K : List (Value × List Int)) : Asn where
  p w F := (∀ b ∈ F, b < w.heap.size) ∧ ∀ q ∈ K, ∃ G, Ty.int.row false w q.1 q.2 G ∧ ∀ b ∈ G, b ∈ F
  lt h := h.1
  keep := by
    rintro w w' F ⟨h1, h2⟩ hk
    refine ⟨fun b hb => ?_, fun q hq => ?_⟩
    · have := hk b hb
      rw [Array.getElem?_eq_getElem (h1 b hb)] at this
      exact (Array.getElem?_eq_some_iff.1 this).1
    · obtain ⟨G, h3, h4⟩ := h2 q hq
      exact ⟨G, Ty.row_keep h3 fun b hb => hk b (h4 b hb), h4⟩
/-- An own row of numbers. -/
abbrev Ints (v : Value) (ys : List Int) : Asn := Own 3 1 v ys.length (ys.map (.int .i64))
/-- An own row of clauses, told with the values of its elements. -/
abbrev Cls (v : Value) (ks : List (Value × List Int)) : Asn := Own 35 1 v ks.length (ks.map Prod.fst)

theorem sep_frontN : ∀ {qs ps : List Asn} {w : World} {F : List Nat}, sep (qs ++ ps) w F → ∃ F1, sep qs w F1 ∧ ∀ b ∈ F1, b ∈ F
  | [], ps, w, F, _ => ⟨[], rfl, by simp⟩
  | q :: qs, ps, w, F, h => by
    obtain ⟨F1, F2, rfl, h1, h2, h3⟩ := h
    obtain ⟨F3, h4, h5⟩ := sep_frontN h3
    refine ⟨F1 ++ F3, ⟨F1, F3, rfl, fun b hb hb2 => h1 b hb (h5 b hb2), h2, h4⟩, fun b hb => ?_⟩
    rcases List.mem_append.1 hb with h | h
    · exact List.mem_append.2 (.inl h)
    · exact List.mem_append.2 (.inr (h5 b h))
/-- The parts behind are let go. -/
theorem Sp.frontN {w0 w : World} {ps qs : List Asn} (h : Sp w0 w (qs ++ ps)) : Sp w0 w qs := by
  obtain ⟨h1, G, h2, h3⟩ := h
  obtain ⟨F, h4, h5⟩ := sep_frontN h2
  exact ⟨h1, F, h4, fun b hb => h3 b (h5 b hb)⟩

section
variable {w0 w w' : World} {ps : List Asn} {i j : Nat} {q : Asn} {K ks : List (Value × List Int)} {v : Value}
theorem Sp.pool_nil (h : Sp w0 w ps) : Sp w0 w (Pool [] :: ps) := h.new (F := []) (bb _) ⟨by simp, by simp⟩ (by simp)
theorem Sp.pool_at (h : Sp w0 w ps) (hi : ps[i]? = some (Pool K)) {r : Value × List Int} (hr : r ∈ K) : ∃ G, Ty.int.row false w r.1 r.2 G := by
  obtain ⟨F, hp, _⟩ := h.get hi
  obtain ⟨G, h1, _⟩ := hp.2 r hr
  exact ⟨G, h1⟩
theorem Sp.pool_add {xs : List Int} (h : Sp w0 w ps) (hi : ps[i]? = some (Pool K)) (hb : Below w.heap.size w w') (ho : w'.ownsRow w.heap.size 3 1 v xs.length (xs.map (.int .i64))) (hI : ∀ x ∈ xs, I64 x) : Sp w0 w' (ps.set i (Pool ((v, xs) :: K))) := by
  obtain ⟨Fi, ⟨hp1, hp2⟩, hF, hall⟩ := h.upd hi
  obtain ⟨G, hr, hG, _⟩ := Ty.row_of_owns ho rfl (by decide) (Ty.all_int hI)
  have hG2 : ∀ b ∈ G, w.heap.size ≤ b := by
    rcases hG with rfl | ⟨g, h1, _, _, rfl⟩
    · simp
    · intro b hb
      obtain rfl : b = g := by simpa using hb
      exact h1
  refine hall w' _ (G ++ Fi) (.of_below hb) ⟨fun b hm => ?_, fun r hr2 => ?_⟩ fun b hm => ?_
  · rcases List.mem_append.1 hm with hm | hm
    · exact Ty.row_lt hr b hm
    · exact Nat.lt_of_lt_of_le (hp1 b hm) hb.size
  · rcases List.mem_cons.1 hr2 with rfl | hr2
    · exact ⟨G, Ty.row_down hr, fun b hb => List.mem_append.2 (.inl hb)⟩
    · obtain ⟨H, h1, h2⟩ := hp2 r hr2
      exact ⟨H, Ty.row_keep h1 fun b hm => hb.block b (hp1 b (h2 b hm)), fun b hm => List.mem_append.2 (.inr (h2 b hm))⟩
  · rcases List.mem_append.1 hm with hm | hm
    · exact .inr (hG2 b hm)
    · exact .inl hm
theorem all_pool (hp : ∀ q ∈ K, ∃ G, Ty.int.row false w q.1 q.2 G) : ∀ {ks : List (Value × List Int)}, (∀ q ∈ ks, q ∈ K) → ∃ G, (Ty.slice Ty.int).all false w (ks.map Prod.fst) (ks.map Prod.snd) G
  | [], _ => ⟨[], rfl, rfl⟩
  | r :: ks, h => by
    obtain ⟨G, hG⟩ := hp r (h r List.mem_cons_self)
    obtain ⟨H, hH⟩ := all_pool hp fun q hq => h q (List.mem_cons_of_mem _ hq)
    exact ⟨G ++ H, [r.1], ks.map Prod.fst, G, H, rfl, rfl, ⟨r.1, rfl, hG⟩, hH⟩
/-- The cells of an own row of one-cell elements. -/
theorem own_view {B : Nat} {e : TypeId} {n : Nat} {cs : List Value} (h : w.ownsRow B e 1 v n cs) : cs.length = n ∧ ((v = .slice none 0 0 ∧ n = 0 ∧ cs = []) ∨ ∃ g c, v = .slice (some ⟨g, 0, none⟩) n c ∧ n ≤ c ∧ c ≤ 9223372036854775807 ∧ ∀ j u, cs[j]? = some u → w.cell? ⟨g, j, none⟩ = some u) := by
  obtain ⟨hl, ⟨rfl, rfl⟩ | ⟨g, cap, cur, rfl, hg, hh, hn, hm, hcs, ht⟩⟩ := h
  · rw [Nat.zero_mul] at hl
    exact ⟨hl, .inl ⟨rfl, rfl, List.length_eq_zero_iff.1 hl⟩⟩
  · rw [Nat.mul_one] at hl
    refine ⟨hl, .inr ⟨g, cap, rfl, hn, by unfold maxLen at hm; omega, fun j u hj => ?_⟩⟩
    have hlt := (List.getElem?_eq_some_iff.1 hj).1
    rw [hown_cell hh ht (by omega)]; exact hj
theorem own_row_f {α : Type} {T : Ty α} {B : Nat} {e : TypeId} {xs : List α} {cs : List Value} {G : List Nat} (h : w.ownsRow B e 1 v xs.length cs) (hT : T.size = 1) (hall : T.all false w cs xs G) : ∃ F, T.row false w v xs F := by
  obtain ⟨hl, h1 | ⟨g, c, rfl, h1, h2, h3⟩⟩ := own_view h
  · obtain ⟨rfl, h0, _⟩ := h1
    obtain rfl : xs = [] := List.length_eq_zero_iff.1 h0
    exact ⟨[], Ty.row_nil _ _ _ _ _ (by decide)⟩
  · by_cases hx : xs = []
    · subst hx
      exact ⟨[], Ty.row_nil _ _ _ _ _ h2⟩
    · exact ⟨g :: G, _, c, cs, G, rfl, h1, h2, hall, .inr ⟨by omega, hx, g, 0, rfl, rfl, fun j hj => ⟨by rw [Nat.zero_add]; exact h3 j _ (List.getElem?_eq_getElem hj), fun e => by cases e⟩⟩⟩
theorem Sp.cls_row (h : Sp w0 w ps) (hi : ps[i]? = some (Cls v ks)) (hj : ps[j]? = some (Pool K)) (hk : ∀ q ∈ ks, q ∈ K) : ∃ F, (Ty.slice Ty.int).row false w v (ks.map Prod.snd) F := by
  obtain ⟨G, hG⟩ := all_pool (fun q hq => h.pool_at hj hq) hk
  have := h.own hi
  have e : (ks.map Prod.snd).length = ks.length := List.length_map _
  refine own_row_f (T := Ty.slice Ty.int) (B := 0) (e := 35) ?_ rfl hG
  rw [e]; exact this
theorem Sp.ints_row {ys : List Int} (h : Sp w0 w ps) (hi : ps[i]? = some (Ints v ys)) (hI : ∀ y ∈ ys, I64 y) : ∃ F, Ty.int.row false w v ys F := own_row_f (h.own hi) rfl (Ty.all_int hI)
end
end Go.Proofs.YtahbepajeplcmaaGreat

/- Plain facts: decimals, checksums, sealed strings, splitting. No program in sight. -/
namespace Go.Proofs.YtahbepajeplcmaaGreat

theorem decDigits_big {u : Nat} (h : ¬ u < 10) : Lib.decDigits u = Lib.decDigits (u / 10) ++ [UInt8.ofNat (48 + u % 10)] := by rw [Lib.decDigits, dif_neg h]
theorem itoa_nat (u : Nat) : Lib.itoa u = Lib.decDigits u := by simp [Lib.itoa, Int.not_lt.2 (Int.natCast_nonneg u)]
theorem itoa_neg (u : Nat) (h : 0 < u) : Lib.itoa (-(u : Int)) = 45 :: Lib.decDigits u := by
  rw [Lib.itoa, if_pos (by omega)]; congr 2; omega
theorem digit_at : ∀ k : Nat, k < 10 → (ByteArray.mk #[48, 49, 50, 51, 52, 53, 54, 55, 56, 57]).extract k (k + 1) = ms [UInt8.ofNat (48 + k)] := by
  intro k hk
  apply bl_inj
  rw [bl_extract, bl_ms]
  match k, hk with
  | 0, _ => rfl
  | 1, _ => rfl
  | 2, _ => rfl
  | 3, _ => rfl
  | 4, _ => rfl
  | 5, _ => rfl
  | 6, _ => rfl
  | 7, _ => rfl
  | 8, _ => rfl
  | 9, _ => rfl
theorem decDigits_ne (u : Nat) : Lib.decDigits u ≠ [] := by
  by_cases h : u < 10
  · rw [Lib.decDigits, dif_pos h]; simp
  · rw [decDigits_big h]; simp
theorem decDigits_len : ∀ (k u : Nat), u < 10 ^ (k + 1) → (Lib.decDigits u).length ≤ k + 1
  | 0, u, h => by rw [Lib.decDigits, dif_pos (by simpa using h)]; simp
  | k + 1, u, h => by
    by_cases h1 : u < 10
    · rw [Lib.decDigits, dif_pos h1]; simp
    · rw [decDigits_big h1, List.length_append]
      have := decDigits_len k (u / 10) (by rw [Nat.pow_succ] at h; omega)
      simp; omega
theorem decDigits_digit : ∀ (n u : Nat), u ≤ n → ∀ c ∈ Lib.decDigits u, 48 ≤ c.toNat ∧ c.toNat ≤ 57
  | n, u, hn => by
    intro c hc
    by_cases h1 : u < 10
    · rw [Lib.decDigits, dif_pos h1] at hc
      simp at hc; subst hc
      simp; omega
    · rw [decDigits_big h1] at hc
      rcases List.mem_append.1 hc with hc | hc
      · cases n with
        | zero => omega
        | succ n => exact decDigits_digit n (u / 10) (by omega) c hc
      · simp at hc; subst hc
        simp; omega
termination_by n => n

/-- The checksum. -/
def sumB (l : List UInt8) : Int := l.foldl (fun h c => (41 * h + c.toNat + 1) % 999979) 7
theorem sumB_snoc (l : List UInt8) (c : UInt8) : sumB (l ++ [c]) = (41 * sumB l + c.toNat + 1) % 999979 := by simp [sumB]
theorem sumB_nil : sumB [] = 7 := rfl
theorem sumB_range (l : List UInt8) : 0 ≤ sumB l ∧ sumB l < 999979 := by
  rcases List.eq_nil_or_concat l with rfl | ⟨l', c, rfl⟩
  · exact ⟨by decide, by decide⟩
  · rw [List.concat_eq_append, sumB_snoc]; omega
/-- The sealed string. -/
def sealB (l : List UInt8) : List UInt8 := l ++ 35 :: Lib.itoa (sumB l)
theorem itoa_len {n : Int} (h0 : 0 ≤ n) (h : n < 1000000) : (Lib.itoa n).length ≤ 6 := by
  obtain ⟨u, rfl⟩ := Int.eq_ofNat_of_zero_le h0
  rw [itoa_nat]
  exact decDigits_len 5 u (by omega)
theorem sealB_length (l : List UInt8) : (sealB l).length ≤ l.length + 7 := by
  have := sumB_range l
  have := itoa_len this.1 (by omega)
  simp [sealB]; omega
end Go.Proofs.YtahbepajeplcmaaGreat

/- Contract: the decimal of a number, in the reference. -/
namespace Go.Proofs.YtahbepajeplcmaaGreat
open Go.RowKit

theorem ret_str {s t : ByteArray} (h : s = t) : Ending.returned (.string s) = .returned (.string t) := by rw [h]

/-- One decimal digit. -/
def dgB (n : Int) : List UInt8 := [UInt8.ofNat (48 + n.toNat)]
theorem dgB_length (n : Int) : (dgB n).length = 1 := rfl

theorem digit_int (n : Int) (h0 : 0 ≤ n) (h : n < 10) : (ByteArray.mk #[48, 49, 50, 51, 52, 53, 54, 55, 56, 57]).extract n.toNat (n + 1).toNat = ms (dgB n) := by
  unfold dgB
  rw [show (n + 1).toNat = n.toNat + 1 by omega]
  exact digit_at _ (by omega)

set_option maxHeartbeats 400000 in
theorem l1Num_nat (k : Nat) : ∀ (n : Int) (w : World), 0 ≤ n → n ≤ 1000000000000 → n.toNat ≤ k →
    Calls Tryz.prog 119 #[.int .i64 n] w fun e w' => e = .returned (.string (ms (Lib.decDigits n.toNat))) ∧ Below w.heap.size w w' := by
  induction k with
  | zero =>
    intro n w h0 hb hk
    have h : n < 10 := by omega
    go_enter Tryz.func119, Tryz.ntmps119
    go_wp2_with fail
    go_ret
    exact ⟨ret_str (by rw [Lib.decDigits, dif_pos (by omega)]; exact digit_int n h0 h), bb _⟩
  | succ k ih =>
    intro n w h0 hb hk
    by_cases h : n < 10
    · go_enter Tryz.func119, Tryz.ntmps119
      go_wp2_with fail
      go_ret
      exact ⟨ret_str (by rw [Lib.decDigits, dif_pos (by omega)]; exact digit_int n h0 h), bb _⟩
    · have hl : (Lib.decDigits (n / 10).toNat).length ≤ 13 := decDigits_len 12 _ (by omega)
      have hm1 : 0 ≤ n % 10 := by omega
      have hm2 : n % 10 < 10 := by omega
      have e4 := digit_int (n % 10) hm1 hm2
      have e5 := fun w => run_add (P := Tryz.prog) w (ms (Lib.decDigits (n / 10).toNat)) (ms (dgB (n % 10))) (by rw [ms_size, ms_size, dgB_length]; omega)
      have e6 : Hid (bl (ms (Lib.decDigits (n / 10).toNat)) ++ bl (ms (dgB (n % 10))) = Lib.decDigits n.toNat) := by
        rw [bl_ms, bl_ms, decDigits_big (u := n.toNat) (by omega)]
        unfold Hid dgB
        rw [show n.toNat / 10 = (n / 10).toNat by omega, show n.toNat % 10 = (n % 10).toNat by omega]
      have q1 : 0 ≤ n / 10 := by omega
      have q2 : n / 10 ≤ 1000000000000 := by omega
      have q3 : (n / 10).toNat ≤ k := by omega
      have e1 : IntKind.i64.wrap (n.tdiv 10) = n / 10 := by rw [Int.tdiv_eq_ediv_of_nonneg h0]; exact IntWalk.i64_in _ (by omega)
      have e2 : IntKind.i64.wrap (n.tmod 10) = n % 10 := by rw [Int.tmod_eq_emod_of_nonneg h0]; exact IntWalk.i64_in _ (by clear e1; omega)
      have e3 : IntKind.i64.wrap (n % 10 + 1) = n % 10 + 1 := IntWalk.i64_in _ (by clear e1 e2; omega)
      go_enter Tryz.func119, Tryz.ntmps119
      go_wp2_with fail
      refine wp_region_quiet_below (by kernel_rfl) (by kernel_rfl) ?_
      repeat (any_goals (first | go_big_quiet_step ((go_at_call 119; exact Calls.regrown_of (ih (n / 10) _ q1 q2 q3))) | quiet_step ((go_at_call 119; exact Calls.regrown_of (ih (n / 10) _ q1 q2 q3)))))
      refine wpQuiet_nil ?_
      rintro w1 ⟨p, rfl⟩
      go_wp2_with fail
      go_ret
      exact ⟨ret_str (congrArg ms e6.out), below_regrown _ _ _⟩

theorem l1Num_pos (n : Int) (w : World) (h0 : 0 ≤ n) (h1 : n ≤ 1000000000000) :
    Calls Tryz.prog 119 #[.int .i64 n] w fun e w' => e = .returned (.string (ms (Lib.itoa n))) ∧ Below w.heap.size w w' := by
  have e : Lib.itoa n = Lib.decDigits n.toNat := by rw [Lib.itoa, if_neg (by omega)]
  rw [e]
  exact l1Num_nat n.toNat n w h0 h1 (Nat.le_refl _)

set_option maxHeartbeats 400000 in
theorem l1Num_any (n : Int) (w : World) (h0 : -1000000000000 ≤ n) (h1 : n ≤ 1000000000000) :
    Calls Tryz.prog 119 #[.int .i64 n] w fun e w' => e = .returned (.string (ms (Lib.itoa n))) ∧ Below w.heap.size w w' := by
  by_cases hn : n < 0
  · have hl : (Lib.itoa (-n)).length ≤ 13 := by
      rw [Lib.itoa, if_neg (by omega)]; exact decDigits_len 12 _ (by omega)
    have e6 : Hid (45 :: Lib.itoa (-n) = Lib.itoa n) := by
      unfold Hid
      rw [Lib.itoa, if_neg (by omega), Lib.itoa, if_pos hn, show n.natAbs = (-n).toNat by omega]
    go_enter Tryz.func119, Tryz.ntmps119
    go_wp2_with (go_at_call 119; refine (l1Num_pos (-n) _ (by omega) (by omega)).mono ?_; rintro e w1 ⟨rfl, hb1⟩)
    go_ret
    exact ⟨ret_str (by apply bl_inj; rw [bl_ms, ← e6.out]; simp [bl_append, bl_ms, bl_lit]), by assumption⟩
  · exact l1Num_pos n w (by omega) h1
end Go.Proofs.YtahbepajeplcmaaGreat

/- Contracts, weak ones: splitting and reading texts in the reference, as the draws need it. -/
namespace Go.Proofs.YtahbepajeplcmaaGreat
open Go.RowKit

theorem infoStrT : (Tryz.prog.info? 9).map (fun i => (i.zero, i.size, i.bytes)) = some (some (.string ByteArray.empty), 1, 16) := by kernel_rfl
theorem ext_le (s : ByteArray) (a b : Nat) : (s.extract a b).size ≤ s.size := by
  rw [← bl_length, bl_extract, List.length_take, List.length_drop, bl_length]; omega
theorem itoa_short {z : Int} (h0 : -1000000 ≤ z) (h1 : z ≤ 1000000) : (Lib.itoa z).length ≤ 14 := by
  rw [Lib.itoa]
  split
  · have := decDigits_len 12 z.natAbs (by omega)
    simp only [List.length_cons]; omega
  · have := decDigits_len 12 z.toNat (by omega)
    omega
/-- Some strings, none longer than a bound. -/
def StrsLe (n : Nat) (ps : List ByteArray) : Prop := ∀ p ∈ ps, p.size ≤ n

set_option maxRecDepth 100000 in
set_option maxHeartbeats 4000000 in
theorem l1SplitW_any (s : ByteArray) (b : Int) (w : World) (hs : s.size ≤ 100000) :
    Calls Tryz.prog 110 #[.string s, .int .u8 b] w fun e w' => ∃ (ps : List ByteArray) (B : Option Addr) (c : Nat), e = .returned (.slice B ps.length c) ∧ 0 < ps.length ∧ ps.length ≤ s.size + 1 ∧ StrsLe s.size ps ∧ Sp w w' [Own 9 1 (.slice B ps.length c) ps.length (ps.map .string)] := by
  obtain ⟨i0, hi, hz0, hz1, hz2⟩ := info_parts infoStrT
  have S0 := Lib.hid ((Sp.start w).own_made 9 1)
  go_enter Tryz.func110, Tryz.ntmps110
  go_wp2_with fail
  go_loopw [5, 6, 7] (fun vo vf vi wr => ∃ (k fr : Nat) (ps : List ByteArray) (B : Option Addr) (c : Nat), k ≤ s.size ∧ fr ≤ k ∧ ps.length ≤ k ∧ vi = .int .i64 k ∧ vf = .int .i64 fr ∧ vo = .slice B ps.length c ∧ Hid (StrsLe s.size ps) ∧ Hid (Sp w wr [Own 9 1 (.slice B ps.length c) ps.length (ps.map .string)])) (fun _ _ vi _ => s.size - (intOf vi).toNat)
  case atStart => exact ⟨0, 0, [], _, _, Nat.zero_le _, Nat.le_refl _, Nat.le_refl _, rfl, rfl, rfl, fun p hp => by simp at hp, S0⟩
  case round =>
    obtain ⟨k, fr, ps, B, c, hk, hfr, hps, rfl, rfl, rfl, HL, HS⟩ := hrel
    clear S0
    by_cases hlt : k < s.size
    · by_cases hb : ((s[k].toNat : Int) == b) = true
      · have hx := ext_le s fr k
        have S2 := HS.out.alloc_box #[.string (s.extract fr k)] 9
        have kB := S2.cell (i := 0) rfl (o := 0) rfl
        replace S2 := Lib.hid S2
        clear HS
        go_wp2_with (at_builtin; refine wpList_append_src rfl _ _ rfl Tryz.underlying96 hi hz0 hz1 hz2 rfl (by decide) _ _ _ rfl (S2.out.own (i := 1) rfl) _ 1 1 [.string (s.extract fr k)] rfl (Src.one kB) (by simp [Value.oneCell']) ?c3 ?c4 ?_)
        case c3 => unfold maxLen; omega
        case c4 => omega
        intro vY wY hownY hgY hatY
        have S4 := (S2.out.own_push (i := 1) rfl (bb _) hownY hgY (by simpa using hatY)).tail
        obtain ⟨aY, cY, rfl⟩ := own_slice hownY
        have hlen : ps.length + 1 = (ps ++ [s.extract fr k]).length := by simp
        have HS3 : Hid (Sp w wY [Own 9 1 (.slice aY (ps ++ [s.extract fr k]).length cY) (ps ++ [s.extract fr k]).length ((ps ++ [s.extract fr k]).map .string)]) := by
          unfold Hid; rw [← hlen, List.map_append]; exact S4
        have HL2 : Hid (StrsLe s.size (ps ++ [s.extract fr k])) := fun p hp => by
          rcases List.mem_append.1 hp with hp | hp
          · exact HL.out p hp
          · obtain rfl : p = s.extract fr k := by simpa using hp
            exact hx
        rw [hlen]
        generalize ps ++ [s.extract fr k] = ps2 at *
        clear S2 S4 kB hownY hgY hatY HL hx
        replace hlen := Lib.hid hlen
        go_wp2_with fail
        go_roundw
        case rel => exact ⟨k + 1, k + 1, ps2, aY, cY, by omega, by omega, by have := hlen.out; omega, by go_num, by go_num, rfl, HL2, HS3⟩
        case measure => simp [intOf]; omega
      · have hb' : ((s[k].toNat : Int) == b) = false := by simpa using hb
        clear hb
        go_wp2_with fail
        go_roundw
        case rel => exact ⟨k + 1, fr, ps, B, c, by omega, by omega, by omega, by go_num, rfl, rfl, HL, HS⟩
        case measure => simp [intOf]; omega
    · obtain rfl : k = s.size := by omega
      have hx := ext_le s fr s.size
      have S2 := HS.out.alloc_box #[.string (s.extract fr s.size)] 9
      have kB := S2.cell (i := 0) rfl (o := 0) rfl
      replace S2 := Lib.hid S2
      clear HS
      go_wp2_with (at_builtin; refine wpList_append_src rfl _ _ rfl Tryz.underlying96 hi hz0 hz1 hz2 rfl (by decide) _ _ _ rfl (S2.out.own (i := 1) rfl) _ 1 1 [.string (s.extract fr s.size)] rfl (Src.one kB) (by simp [Value.oneCell']) ?c3 ?c4 ?_)
      case c3 => unfold maxLen; omega
      case c4 => omega
      intro vY wY hownY hgY hatY
      have S4 := (S2.out.own_push (i := 1) rfl (bb _) hownY hgY (by simpa using hatY)).tail
      obtain ⟨aY, cY, rfl⟩ := own_slice hownY
      have hlen : ps.length + 1 = (ps ++ [s.extract fr s.size]).length := by simp
      have HS3 : Hid (Sp w wY [Own 9 1 (.slice aY (ps ++ [s.extract fr s.size]).length cY) (ps ++ [s.extract fr s.size]).length ((ps ++ [s.extract fr s.size]).map .string)]) := by
        unfold Hid; rw [← hlen, List.map_append]; exact S4
      have HL2 : Hid (StrsLe s.size (ps ++ [s.extract fr s.size])) := fun p hp => by
        rcases List.mem_append.1 hp with hp | hp
        · exact HL.out p hp
        · obtain rfl : p = s.extract fr s.size := by simpa using hp
          exact hx
      rw [hlen]
      generalize ps ++ [s.extract fr s.size] = ps2 at *
      clear S2 S4 kB hownY hgY hatY HL hx
      replace hlen := Lib.hid hlen
      go_wp2_with fail
      go_ret
      exact ⟨ps2, aY, cY, rfl, by have := hlen.out; omega, by have := hlen.out; omega, HL2.out, HS3.out⟩
end Go.Proofs.YtahbepajeplcmaaGreat

/- Contracts, weak ones: the number of a text, the text of a clause, in the reference. -/
namespace Go.Proofs.YtahbepajeplcmaaGreat
open Go.RowKit

/-- A number and whether it was one. -/
def ReadW (e : Ending) : Prop := ∃ (z : Int) (q : Bool), -1000000 ≤ z ∧ z ≤ 1000000 ∧ e = .returned (.tuple #[.int .i64 z, .bool q])
set_option maxRecDepth 100000 in
set_option maxHeartbeats 4000000 in
theorem l1ReadW_any (s : ByteArray) (w : World) (hs : s.size ≤ 100000) :
    Calls Tryz.prog 111 #[.string s] w fun e w' => ReadW e ∧ Below w.heap.size w w' := by
  go_enter Tryz.func111, Tryz.ntmps111
  go_upto_region 2 with fail
  go_cut [15] (fun v wx => ∃ q : Bool, v = .bool q ∧ Hid (q = true → 1 < s.size) ∧ wx = w)
  case first =>
    by_cases h1 : (1 : Int) < (s.size : Int)
    · have d1 : decide ((1 : Int) < (s.size : Int)) = true := decide_eq_true h1
      have h0 : 0 < s.size := by omega
      by_cases h2 : ((s[0].toNat : Int) == 45) = true
      · go_wp2_with fail
        go_meet
        exact ⟨true, rfl, fun _ => by omega, rfl⟩
      · have h2' : ((s[0].toNat : Int) == 45) = false := by simpa using h2
        clear h2
        go_wp2_with fail
        go_meet
        exact ⟨false, rfl, (fun e => by cases e), rfl⟩
    · have d1 : decide ((1 : Int) < (s.size : Int)) = false := decide_eq_false h1
      go_wp2_with fail
      go_meet
      exact ⟨false, rfl, (fun e => by cases e), rfl⟩
  case rest =>
  obtain ⟨q, rfl, hq, hw⟩ := hcut
  subst hw
  go_upto_if 15 with fail
  go_cut [4] (fun v wx => ∃ t : ByteArray, v = .string t ∧ t.size ≤ 100000 ∧ wx = wc)
  case first =>
    cases q
    · go_wp2_with fail
      go_meet
      exact ⟨s, rfl, hs, rfl⟩
    · have hq2 := hq.out rfl
      have h1 : (1 : Int) ≤ (s.size : Int) := by omega
      have hx := ext_le s 1 s.size
      clear hq
      go_wp2_with fail
      go_meet
      exact ⟨s.extract 1 s.size, rfl, by omega, rfl⟩
  case rest =>
  clear hq
  obtain ⟨t, rfl, ht, hw2⟩ := hcut
  subst hw2
  obtain ⟨q6, hq6⟩ : ∃ q, inB (t.size : Int) 1 6 = q := ⟨_, rfl⟩
  go_wp2_with fail
  refine (l1In_any _ _ _ _).mono ?_
  rintro e w1 ⟨rfl, rfl⟩
  rw [hq6]
  cases q6
  · go_wp2_with fail
    go_ret2
    exact ⟨⟨0, false, by decide, by decide, rfl⟩, bb _⟩
  have hT6 : t.size ≤ 6 := by unfold inB at hq6; simp only [Bool.and_eq_true, decide_eq_true_eq] at hq6; omega
  go_wp2_with fail
  go_loop [5, 6] (fun z i => ∃ (k : Nat) (v : Int), k ≤ t.size ∧ i = .int .i64 k ∧ z = .int .i64 v ∧ 0 ≤ v ∧ Hid (v < (10 : Int) ^ k)) (fun _ i => t.size - (intOf i).toNat)
  case atStart => exact ⟨0, 0, Nat.zero_le _, rfl, rfl, Int.le_refl _, by unfold Hid; decide⟩
  case round =>
    obtain ⟨k, v, hk, rfl, rfl, hv0, hv⟩ := hrel
    have hv6 : v < 1000000 := Int.lt_of_lt_of_le hv.out (by
      have h1 : (10 : Int) ^ k = ((10 ^ k : Nat) : Int) := by rw [Int.natCast_pow]; rfl
      have h2 : 10 ^ k ≤ 10 ^ 6 := Nat.pow_le_pow_right (by decide) (by omega)
      omega)
    by_cases hlt : k < t.size
    · have hc256 := t[k].toNat_lt
      by_cases h1 : (t[k].toNat : Int) < 48
      · have d1 : decide ((t[k].toNat : Int) < 48) = true := decide_eq_true h1
        go_wp2_with fail
        go_ret2
        exact ⟨⟨0, false, by decide, by decide, rfl⟩, bb _⟩
      · have d1 : decide ((t[k].toNat : Int) < 48) = false := decide_eq_false h1
        by_cases h2 : (57 : Int) < (t[k].toNat : Int)
        · have d2 : decide ((57 : Int) < (t[k].toNat : Int)) = true := decide_eq_true h2
          go_wp2_with fail
          go_ret2
          exact ⟨⟨0, false, by decide, by decide, rfl⟩, bb _⟩
        · have d2 : decide ((57 : Int) < (t[k].toNat : Int)) = false := decide_eq_false h2
          have hw1 : IntKind.i64.wrap (10 * v) = 10 * v := IntWalk.i64_in _ (by omega)
          have hnx : Hid (10 * v + ((t[k].toNat : Int) - 48) < (10 : Int) ^ (k + 1)) := by
            have h3 := hv.out
            unfold Hid
            rw [Int.pow_succ]
            omega
          have hge : 0 ≤ 10 * v + ((t[k].toNat : Int) - 48) := by omega
          clear hv
          go_wp2_with fail
          go_round
          case rel => exact ⟨k + 1, _, by omega, by go_num, rfl, hge, hnx⟩
          case measure => simp [intOf]; omega
    · obtain rfl : k = t.size := by omega
      clear hv
      have hneg : IntKind.i64.wrap (-v) = -v := IntWalk.i64_in _ (by omega)
      go_upto_if 50 with fail
      go_cut [5] (fun x wx => ∃ z : Int, x = .int .i64 z ∧ -1000000 ≤ z ∧ z ≤ 1000000 ∧ wx = wc)
      case first =>
        by_cases hlt2 : (t.size : Int) < (s.size : Int)
        · have d1 : decide ((t.size : Int) < (s.size : Int)) = true := decide_eq_true hlt2
          go_wp2_with fail
          go_meet
          exact ⟨-v, rfl, by omega, by omega, rfl⟩
        · have d1 : decide ((t.size : Int) < (s.size : Int)) = false := decide_eq_false hlt2
          go_wp2_with fail
          go_meet
          exact ⟨v, rfl, by omega, by omega, rfl⟩
      case rest =>
      obtain ⟨z, rfl, hz0, hz1, hw3⟩ := hcut
      subst hw3
      go_wp2_with fail
      refine (l1Num_any z _ (by omega) (by omega)).mono ?_
      rintro e w2 ⟨rfl, hb2⟩
      generalize ms (Lib.itoa z) = u at *
      obtain ⟨q, hq⟩ : ∃ q, (bl u == bl s) = q := ⟨_, rfl⟩
      cases q
      · go_wp2_with fail
        go_ret2
        exact ⟨⟨0, false, by decide, by decide, rfl⟩, hb2⟩
      · go_wp2_with fail
        go_ret2
        exact ⟨⟨z, true, hz0, hz1, rfl⟩, hb2⟩

set_option maxRecDepth 100000 in
set_option maxHeartbeats 4000000 in
theorem l2TextW_any (c : List Int) (hc : Within 1000000 c) (hl : c.length ≤ 100) (A : Option Addr) (cap : Nat) (w : World) (hx : IntsAt w A c) :
    Calls Tryz.prog 120 #[.slice A c.length cap] w fun e w' => ∃ t : ByteArray, t.size ≤ 20 * c.length + 20 ∧ e = .returned (.string t) ∧ Below w.heap.size w w' := by
  have hN := Lib.hid hx
  clear hx
  by_cases h0 : c.length = 0
  · have h0' : (c.length : Int) = 0 := by omega
    replace h0 := Lib.hid h0
    go_enter Tryz.func120, Tryz.ntmps120
    go_wp2_with fail
    go_ret
    exact ⟨_, by show 4 ≤ _; omega, rfl, bb _⟩
  · have h1 : 0 < c.length := by omega
    have h0' : ((c.length : Int) == 0) = false := by rw [beq_eq_false_iff_ne]; omega
    obtain ⟨b, off, rfl, m0⟩ := hN.out.at_ 0 h1
    have hb0 := hc _ (List.getElem_mem h1)
    rw [Nat.add_zero] at m0
    generalize c[0] = x0 at *
    clear h0
    go_enter Tryz.func120, Tryz.ntmps120
    go_wp2_with fail
    refine (l1Num_any x0 _ (by omega) (by omega)).mono ?_
    rintro e w1 ⟨rfl, hb1⟩
    have hsz : (ms (Lib.itoa x0)).size ≤ 14 := by rw [ms_size]; exact itoa_short hb0.1 hb0.2
    generalize ms (Lib.itoa x0) = t0 at *
    have HB0 := Lib.hid hb1
    clear hb1 m0 hb0
    go_wp2_with fail
    go_loopw [3, 4] (fun vs vi wr => ∃ (k : Nat) (t : ByteArray), k ≤ c.length ∧ 1 ≤ k ∧ vi = .int .i64 k ∧ vs = .string t ∧ t.size ≤ 20 * k ∧ Hid (Below w.heap.size w wr)) (fun _ vi _ => c.length - (intOf vi).toNat)
    case atStart => exact ⟨1, t0, h1, Nat.le_refl _, rfl, rfl, by omega, HB0⟩
    case round =>
      obtain ⟨k, t, hk, hk1, rfl, rfl, hts, HB⟩ := hrel
      clear HB0
      by_cases hlt : k < c.length
      · obtain ⟨b', off', e', m0⟩ := (hN.out.grow HB.out).at_ k hlt
        cases e'
        have hb0 := hc _ (List.getElem_mem hlt)
        generalize c[k] = x at *
        obtain ⟨t1, ht1⟩ : ∃ t1, ms (bl t ++ bl ⟨#[32]⟩) = t1 := ⟨_, rfl⟩
        have hs1 : t1.size ≤ 20 * k + 1 := by
          rw [← ht1, ms_size, List.length_append, bl_length, bl_length]
          have : (⟨#[32]⟩ : ByteArray).size = 1 := rfl
          omega
        have a1 := fun w' => run_add (P := Tryz.prog) w' t ⟨#[32]⟩ (by have : (⟨#[32]⟩ : ByteArray).size = 1 := rfl; omega)
        rw [ht1] at a1
        clear ht1
        go_wp2_with fail
        refine (l1Num_any x _ (by omega) (by omega)).mono ?_
        rintro e w2 ⟨rfl, hb2⟩
        have hsz2 : (ms (Lib.itoa x)).size ≤ 14 := by rw [ms_size]; exact itoa_short hb0.1 hb0.2
        generalize ms (Lib.itoa x) = u at *
        obtain ⟨t2, ht2⟩ : ∃ t2, ms (bl t1 ++ bl u) = t2 := ⟨_, rfl⟩
        have hs2 : t2.size ≤ 20 * (k + 1) := by
          rw [← ht2, ms_size, List.length_append, bl_length, bl_length]
          omega
        have a2 := fun w' => run_add (P := Tryz.prog) w' t1 u (by omega)
        rw [ht2] at a2
        have HB2 := Lib.hid (btr HB.out hb2)
        clear ht2 HB hb2 hb0 m0 a1
        go_wp2_with fail
        go_roundw
        case rel => exact ⟨k + 1, t2, by omega, by omega, by go_num, rfl, hs2, HB2⟩
        case measure => simp [intOf]; omega
      · obtain rfl : k = c.length := by omega
        go_wp2_with fail
        go_ret
        exact ⟨t, by omega, rfl, HB.out⟩
end Go.Proofs.YtahbepajeplcmaaGreat

/- Contract, a weak one: a clause read from a text, in the reference. -/
namespace Go.Proofs.YtahbepajeplcmaaGreat
open Go.RowKit

theorem strs_own {w : World} {B : Nat} {e : TypeId} {A : Option Addr} {c : Nat} {ps : List ByteArray} (h : w.ownsRow B e 1 (.slice A ps.length c) ps.length (ps.map .string)) {j : Nat} (hj : j < ps.length) : ∃ b off, A = some ⟨b, off, none⟩ ∧ w.cell? ⟨b, off + j, none⟩ = some (.string ps[j]) := by
  obtain ⟨g, cap, cur, e1, _, hh, _, _, _, ht⟩ := own_block h (by omega)
  simp only [Value.slice.injEq] at e1
  obtain ⟨rfl, -, rfl⟩ := e1
  refine ⟨g, 0, rfl, ?_⟩
  rw [Nat.mul_one] at ht
  rw [Nat.zero_add, hown_cell hh ht hj]
  simp [hj]
theorem Within.snoc {m : Int} {c : List Int} {x : Int} (h : Within m c) (h0 : -m ≤ x) (h1 : x ≤ m) : Within m (c ++ [x]) := fun y hy => by
  rcases List.mem_append.1 hy with hy | hy
  · exact h y hy
  · obtain rfl : y = x := by simpa using hy
    exact ⟨h0, h1⟩
/-- A clause and whether it is one. -/
def ParseW (vars : Int) (w : World) (e : Ending) (w' : World) : Prop := ∃ (c : List Int) (B : Option Addr) (k : Nat) (q : Bool), e = .returned (.tuple #[.slice B c.length k, .bool q]) ∧ Within 1000000 c ∧ c.length ≤ 13 ∧ (q = true → clauseB vars c = true) ∧ Sp w w' [Own 3 1 (.slice B c.length k) c.length (c.map (.int .i64))]

set_option maxRecDepth 100000 in
set_option maxHeartbeats 8000000 in
theorem l2ParseW_any (vars : Int) (s : ByteArray) (w : World) (hs : s.size ≤ 100000) :
    Calls Tryz.prog 112 #[.int .i64 vars, .string s] w (ParseW vars w) := by
  have S0 := Lib.hid ((Sp.start w).own_made 3 1)
  obtain ⟨i0, hi, hz0, hz1, hz2⟩ := info_parts infoInt
  go_enter Tryz.func112, Tryz.ntmps112
  go_upto_region 2 with fail
  go_cut [13] (fun v wx => ∃ q : Bool, v = .bool q ∧ Hid (Sp w wx [Own 3 1 (.slice (some ⟨w.heap.size, 0, none⟩) 0 0) 0 []]))
  case first =>
    go_wp2_with fail
    go_meet
    exact ⟨_, rfl, S0⟩
  case rest =>
  clear S0
  obtain ⟨q, rfl, S0⟩ := hcut
  cases q
  case true =>
    obtain ⟨q1, hq1⟩ : ∃ q, inB vars 0 12 = q := ⟨_, rfl⟩
    go_wp2_with fail
    refine (l2Vars_any _ _).mono ?_
    rw [hq1]
    rintro e w1 ⟨rfl, rfl⟩
    go_wp2_with fail
    go_ret2
    exact ⟨[], _, _, q1, rfl, fun x hx => by simp at hx, by simp, fun h => by unfold clauseB; rw [hq1, h]; rfl, S0.out⟩
  case false =>
  go_wp2_with fail
  refine (l1SplitW_any s 32 _ hs).mono ?_
  rintro e w1 ⟨ps, PB, pc, rfl, hps0, hps1, HL, T1⟩
  have S1 : Hid (Sp w w1 [Own 9 1 (.slice PB ps.length pc) ps.length (ps.map .string), Own 3 1 (.slice (some ⟨w.heap.size, 0, none⟩) ([] : List Int).length 0) ([] : List Int).length (([] : List Int).map (.int .i64))]) := S0.out.seq T1
  replace HL := Lib.hid HL
  clear S0 T1
  go_wp2_with fail
  go_loopw [6, 8, 9, 10] (fun vo vi _ _ wr => ∃ (c : List Int) (B : Option Addr) (cap : Nat), c.length ≤ ps.length ∧ c.length ≤ 13 ∧ vi = .int .i64 (c.length : Nat) ∧ vo = .slice B c.length cap ∧ Hid (Within 1000000 c) ∧ Hid (Sp w wr [Own 9 1 (.slice PB ps.length pc) ps.length (ps.map .string), Own 3 1 (.slice B c.length cap) c.length (c.map (.int .i64))])) (fun _ vi _ _ _ => ps.length - (intOf vi).toNat)
  case atStart => exact ⟨[], _, _, Nat.zero_le _, by simp, rfl, rfl, fun x hx => by simp at hx, S1⟩
  case round =>
    obtain ⟨c, B, cap, hk, hk13, rfl, rfl, HW, HS⟩ := hrel
    clear S1
    go_upto_region 6 with fail
    go_cut [26] (fun v wx => ∃ q : Bool, v = .bool q ∧ Hid (q = true → c.length < ps.length ∧ c.length ≤ 12) ∧ Hid (Sp w wx [Own 9 1 (.slice PB ps.length pc) ps.length (ps.map .string), Own 3 1 (.slice B c.length cap) c.length (c.map (.int .i64))]))
    case first =>
      have hcond : (c.length < ps.length ∧ c.length ≤ 12) ∨ ¬ c.length < ps.length ∨ (c.length < ps.length ∧ ¬ c.length ≤ 12) := by omega
      rcases hcond with ⟨hm, hn0⟩ | hm | ⟨hm, hn0⟩
      · have d1 : decide ((c.length : Int) < (ps.length : Int)) = true := decide_eq_true (by omega)
        have d2 : decide ((c.length : Int) ≤ 12) = true := decide_eq_true (by omega)
        go_wp2_with fail
        go_meet
        exact ⟨true, rfl, fun _ => ⟨hm, hn0⟩, HS⟩
      · have d1 : decide ((c.length : Int) < (ps.length : Int)) = false := decide_eq_false (by omega)
        go_wp2_with fail
        go_meet
        exact ⟨false, rfl, (fun e => by cases e), HS⟩
      · have d1 : decide ((c.length : Int) < (ps.length : Int)) = true := decide_eq_true (by omega)
        have d2 : decide ((c.length : Int) ≤ 12) = false := decide_eq_false (by omega)
        go_wp2_with fail
        go_meet
        exact ⟨false, rfl, (fun e => by cases e), HS⟩
    case rest =>
    clear HS
    obtain ⟨q, rfl, hq, HS⟩ := hcut
    cases q
    case true =>
      obtain ⟨hm, hn0⟩ := hq.out rfl
      clear hq
      obtain ⟨b, off, rfl, m0⟩ := strs_own (HS.out.own (i := 0) rfl) hm
      have hsz := HL.out _ (List.getElem_mem hm)
      have hrd := Lib.hid (fun W => l1ReadW_any ps[c.length] W (by omega))
      generalize ps[c.length] = p at *
      go_wp2_with fail
      refine (hrd.out _).mono ?_
      rintro e w2 ⟨⟨z, q, hzl, hzu, rfl⟩, hb2⟩
      have S2 := Lib.hid (HS.out.grow hb2)
      clear HS hrd hb2 m0 hsz
      cases q
      · have S3 := Lib.hid (S2.out.own_made 3 1)
        clear S2
        go_wp2_with fail
        go_ret2
        exact ⟨[], _, _, false, rfl, fun x hx => by simp at hx, by simp, (fun e => by cases e), S3.out.swap.tail.swap.tail⟩
      · have S3 := S2.out.alloc_box #[.int .i64 z] 3
        have kB := S3.cell (i := 0) rfl (o := 0) rfl
        replace S3 := Lib.hid S3
        clear S2
        go_wp2_with (at_builtin; refine wpList_append_src rfl _ _ rfl Tryz.underlying35 hi hz0 hz1 hz2 rfl (by decide) _ _ _ rfl (S3.out.own (i := 2) rfl) _ 1 1 [.int .i64 z] rfl (Src.one kB) (by simp [Value.oneCell']) ?c3 ?c4 ?_)
        case c3 => unfold maxLen; omega
        case c4 => omega
        intro vY wY hownY hgY hatY
        have S4 := (S3.out.own_push (i := 2) rfl (bb _) hownY hgY (by simpa using hatY)).tail
        obtain ⟨aY, cY, rfl⟩ := own_slice hownY
        have hlen : c.length + 1 = (c ++ [z]).length := by simp
        have HS3 : Hid (Sp w wY [Own 9 1 (.slice (some ⟨b, off, none⟩) ps.length pc) ps.length (ps.map .string), Own 3 1 (.slice aY (c ++ [z]).length cY) (c ++ [z]).length ((c ++ [z]).map (.int .i64))]) := by
          unfold Hid; rw [← hlen, List.map_append]; exact S4
        have HW2 := Lib.hid (HW.out.snoc hzl hzu)
        have hi1 : IntKind.i64.wrap ((c.length : Int) + 1) = ((c ++ [z]).length : Int) := by rw [IntWalk.i64_in _ (by omega), ← hlen]; omega
        rw [hlen]
        have hl2 : (c ++ [z]).length ≤ ps.length := by omega
        have hl3 : (c ++ [z]).length ≤ 13 := by omega
        have hl4 : c.length < (c ++ [z]).length := by omega
        generalize c ++ [z] = c2 at *
        replace hlen := Lib.hid hlen
        clear S3 S4 kB hownY hgY hatY HW
        go_wp2_with fail
        go_roundw
        case rel => exact ⟨c2, aY, cY, hl2, hl3, rfl, rfl, HW2, HS3⟩
        case measure => simp [intOf]; omega
    case false =>
      clear hq
      obtain ⟨F, hr, _, _⟩ := own_row (HS.out.own (i := 1) rfl) (HW.out.i64 (by decide))
      obtain ⟨A', c', e', hI⟩ := ints_own (HS.out.own (i := 1) rfl) (HW.out.i64 (by decide))
      cases e'
      have hcl := Lib.hid (l2Clause_any vars _ c F _ (Ty.row_down hr))
      have htx := Lib.hid (fun W hb => l2TextW_any c HW.out (by omega) B cap W (hI.grow hb))
      clear hr hI
      go_upto_region 12 with fail
      go_cut [58] (fun v wx => ∃ q : Bool, v = .bool q ∧ Hid (q = false → clauseB vars c = true) ∧ Hid (Sp w wx [Own 9 1 (.slice PB ps.length pc) ps.length (ps.map .string), Own 3 1 (.slice B c.length cap) c.length (c.map (.int .i64))]))
      case first =>
        by_cases h12 : (12 : Int) < (ps.length : Int)
        · have d1 : decide ((12 : Int) < (ps.length : Int)) = true := decide_eq_true h12
          go_wp2_with fail
          go_meet
          exact ⟨true, rfl, (fun e => by cases e), HS⟩
        · have d1 : decide ((12 : Int) < (ps.length : Int)) = false := decide_eq_false h12
          obtain ⟨q, hq⟩ : ∃ q, clauseB vars c = q := ⟨_, rfl⟩
          rw [hq] at hcl
          go_wp2_with fail
          refine hcl.out.mono ?_
          rintro e w2 ⟨rfl, hb2⟩
          have S2 := Lib.hid (HS.out.grow hb2)
          have htx2 := Lib.hid (htx.out _ hb2)
          clear HS hcl htx hb2
          cases q
          · go_wp2_with fail
            go_meet
            exact ⟨true, rfl, (fun e => by cases e), S2⟩
          · go_wp2_with fail
            refine htx2.out.mono ?_
            rintro e w3 ⟨t, ht, rfl, hb3⟩
            have S3 := Lib.hid (S2.out.grow hb3)
            clear S2 htx2 hb3
            go_wp2_with fail
            go_meet
            exact ⟨_, rfl, fun _ => hq, S3⟩
      case rest =>
      clear HS hcl htx
      obtain ⟨q, rfl, hq, HS⟩ := hcut
      cases q
      · have hcb := hq.out rfl
        go_wp2_with fail
        go_ret2
        exact ⟨c, B, cap, true, rfl, HW.out, hk13, fun _ => hcb, HS.out.tail⟩
      · have S3 := Lib.hid (HS.out.own_made 3 1)
        clear HS
        go_wp2_with fail
        go_ret2
        exact ⟨[], _, _, false, rfl, fun x hx => by simp at hx, by simp, (fun e => by cases e), S3.out.swap.tail.swap.tail⟩
end Go.Proofs.YtahbepajeplcmaaGreat

/- Contract, a weak one: the text of a Cnf, in the reference. -/
namespace Go.Proofs.YtahbepajeplcmaaGreat
open Go.RowKit

/-- Clauses that are short and small. -/
def SmallC (xss : List (List Int)) : Prop := ∀ c ∈ xss, Within 1000000 c ∧ c.length ≤ 13

set_option maxRecDepth 100000 in
set_option maxHeartbeats 4000000 in
theorem l2TextOfW_any (vars : Int) (hv : -1000000 ≤ vars ∧ vars ≤ 1000000) (xss : List (List Int)) (hc : SmallC xss) (hl : xss.length ≤ 1000) (A : Option Addr) (cap : Nat) (w : World) (hx : ClsAt w A xss) :
    Calls Tryz.prog 113 #[.agg #[.int .i64 vars, .slice A xss.length cap]] w fun e w' => ∃ t : ByteArray, e = .returned (.string t) ∧ Below w.heap.size w w' := by
  have hN := Lib.hid hx
  have hcc := Lib.hid hc
  have S0 := (Sp.start w).alloc_box #[.int .i64 vars, .slice A xss.length cap] 28
  have c0 := S0.cell (i := 0) rfl (o := 0) rfl
  replace S0 := Lib.hid S0
  clear hx hc
  go_enter Tryz.func113, Tryz.ntmps113
  go_wp2_with fail
  refine (l1Num_any vars _ (by omega) (by omega)).mono ?_
  rintro e w1 ⟨rfl, hb1⟩
  have hsz : (ms (Lib.itoa vars)).size ≤ 14 := by rw [ms_size]; exact itoa_short hv.1 hv.2
  generalize ms (Lib.itoa vars) = t0 at *
  have S1 := Lib.hid (S0.out.grow hb1)
  clear S0 hb1 c0
  go_wp2_with fail
  go_loopw [3, 4] (fun vs vi wr => ∃ (k : Nat) (t : ByteArray), k ≤ xss.length ∧ vi = .int .i64 k ∧ vs = .string t ∧ t.size ≤ 300 * k + 20 ∧ Hid (Sp w wr [Box w.heap.size 28 #[.int .i64 vars, .slice A xss.length cap]])) (fun _ vi _ => xss.length - (intOf vi).toNat)
  case atStart => exact ⟨0, t0, Nat.zero_le _, rfl, rfl, by omega, S1⟩
  case round =>
    obtain ⟨k, t, hk, rfl, rfl, hts, HS⟩ := hrel
    clear S1
    have c1 := HS.out.cell (i := 0) rfl (o := 1) rfl
    by_cases hlt : k < xss.length
    · obtain ⟨b, off, Bc, cc, rfl, m0, hI⟩ := (hN.out.grow HS.out.below).at_ k hlt
      have hcl := hcc.out _ (List.getElem_mem hlt)
      have htx := Lib.hid (l2TextW_any xss[k] hcl.1 (by omega) Bc cc wr hI)
      have hl13 := hcl.2
      generalize xss[k] = c at *
      obtain ⟨t1, ht1⟩ : ∃ t1, ms (bl t ++ bl ⟨#[59, 32]⟩) = t1 := ⟨_, rfl⟩
      have hs1 : t1.size ≤ 300 * k + 22 := by
        rw [← ht1, ms_size, List.length_append, bl_length, bl_length]
        have : (⟨#[59, 32]⟩ : ByteArray).size = 2 := rfl
        omega
      have a1 := fun w' => run_add (P := Tryz.prog) w' t ⟨#[59, 32]⟩ (by have : (⟨#[59, 32]⟩ : ByteArray).size = 2 := rfl; omega)
      rw [ht1] at a1
      clear ht1 hI
      go_wp2_with fail
      refine htx.out.mono ?_
      rintro e w2 ⟨u, hu, rfl, hb2⟩
      obtain ⟨t2, ht2⟩ : ∃ t2, ms (bl t1 ++ bl u) = t2 := ⟨_, rfl⟩
      have hs2 : t2.size ≤ 300 * (k + 1) + 20 := by
        rw [← ht2, ms_size, List.length_append, bl_length, bl_length]
        omega
      have a2 := fun w' => run_add (P := Tryz.prog) w' t1 u (by omega)
      rw [ht2] at a2
      have S2 := Lib.hid (HS.out.grow hb2)
      clear ht2 HS hb2 m0 a1 c1 htx
      go_wp2_with fail
      go_roundw
      case rel => exact ⟨k + 1, t2, by omega, by go_num, rfl, hs2, S2⟩
      case measure => simp [intOf]; omega
    · obtain rfl : k = xss.length := by omega
      have hB := HS.out.below
      go_wp2_with fail
      go_ret
      exact ⟨t, rfl, hB⟩
end Go.Proofs.YtahbepajeplcmaaGreat
