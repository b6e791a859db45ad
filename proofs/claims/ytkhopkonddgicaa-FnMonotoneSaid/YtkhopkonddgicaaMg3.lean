/- Lemmas and contracts for a law, put together out of several texts: TrB GtM TrC TrD GtMB GtB GtC GtD MdA MdB GtE GtG GtH GtI GtN MdC. -/
import Derived.Test.YtkhopkonddgicaaMg2
import Derived.Test.YtkhopkonddgicaaMg1
import Derived.BigQuiet
import Derived.Lib.QuietBelow
import Derived.Lib.Hide
import Derived.Lib.RabinKarpLaws
import Derived.Deep.DeepCutAuto
import Derived.RangeFuncNested
import Derived.RangeFuncBound
import Derived.RangeFuncCalls
import Derived.RangeFuncLeaves
import Derived.RangeFuncBox
import Derived.Shelf.Abstract
import Derived.Shelf.RegionOpen
import Derived.WalkKit
import Derived.OwnWalkIn
import Derived.TacticsInMore
import Derived.LoopNIn
import Derived.LoopIn
/- Contracts: truth of clauses and of Cnfs at bits, in the program. -/
namespace Go.Proofs.Ytkhopkonddgicaa
open Go.RowKit

/-- A literal that can be told at bits. -/
def LitS (l : Int) : Prop := l ≠ 0 ∧ -1000 ≤ l ∧ l ≤ 1000
theorem LitS.i64 {l : Int} (h : LitS l) : I64 l := by unfold LitS at h; unfold I64; omega
theorem absV_lit {l : Int} (h : LitS l) : absV l = (l.natAbs : Int) := by
  unfold LitS at h
  unfold absV
  split
  · rw [negV_small (by unfold I64; omega) (by omega)]; omega
  · omega
/-- A bit that is shifted to the end. -/
theorem bit_at (b : Nat) (hb : b < 2 ^ 62) (m : Nat) : bits .and .i64 ((b : Int) / 2 ^ min m 64) 1 = if b.testBit m then 1 else 0 := by
  have e0 : (b : Int) / 2 ^ min m 64 = ((b / 2 ^ min m 64 : Nat) : Int) := by
    rw [Int.natCast_ediv, Int.natCast_pow]; rfl
  rw [e0, and_one _ (Nat.lt_of_le_of_lt (Nat.div_le_self _ _) (Nat.lt_trans hb (by decide)))]
  have h64 : ∀ s, 64 ≤ s → b.testBit s = false := fun s hs => Nat.testBit_lt_two_pow (Nat.lt_of_lt_of_le hb (Nat.pow_le_pow_right (by decide) (by omega)))
  have e : b.testBit m = b.testBit (min m 64) := by
    rcases Nat.lt_or_ge m 64 with h | h
    · rw [Nat.min_eq_left (by omega)]
    · rw [h64 _ h, h64 _ (by omega)]
  rw [e, Nat.testBit_eq_decide_div_mod_eq]
  rcases Nat.mod_two_eq_zero_or_one (b / 2 ^ min m 64) with h | h
  · rw [h]; simp
  · rw [h]; simp

set_option maxRecDepth 100000 in
set_option maxHeartbeats 4000000 in
theorem holds1_any (l : Int) (hl : LitS l) (b g : Nat) (hb : b < 2 ^ 62) (w : World) (k0 : w.cell? ⟨g, 0, none⟩ = some (.int .i64 b)) :
    Calls Try.prog 112 #[.int .i64 l, .pointer (some ⟨g, 0, none⟩)] w fun e w' => e = .returned (.bool (litT b l)) ∧ Below w.heap.size w w' := by
  obtain ⟨m, hm⟩ : ∃ m, l.natAbs = m + 1 := ⟨l.natAbs - 1, by unfold LitS at hl; omega⟩
  have ha := fun W => abs_at hl.i64 (absV_lit hl) W
  have hand := bit_at b hb m
  have hR : Hid (litT b l = (b.testBit (l.natAbs - 1) == decide (0 < l))) := rfl
  rw [hm, show m + 1 - 1 = m by omega] at hR
  rw [hm, show ((m + 1 : Nat) : Int) = (m : Int) + 1 by omega] at ha
  have hw1 : IntKind.i64.wrap ((m : Int) + 1 - 1) = (m : Int) := by rw [IntWalk.i64_in _ (by unfold LitS at hl; omega)]; omega
  have hw2 : IntKind.i64.wrap (m : Int) = (m : Int) := by rw [IntWalk.i64_in _ (by unfold LitS at hl; omega)]
  have hm2 : m ≤ 1000 := by unfold LitS at hl; omega
  generalize b.testBit m = q at *
  clear hm hl
  cases hp : decide (0 < l)
  all_goals
    rw [hp] at hR
    cases q
  all_goals
    simp only [if_true, if_false, Bool.false_eq_true] at hand
    go_enter Try.func112, Try.ntmps112
    go_wp2_with fail
    refine wp_region_held_lit (S := (fun w' => w'.cell? ⟨g, 0, none⟩ = some (.int .i64 b))) 11 [false, false, false, false, false, false, false, false, false, false, false] (by kernel_rfl) (by kernel_rfl) (by kernel_rfl) ?_ ?_
    · exact k0
    intro hS
    (refine wpAnyH_take (i := 0) (v := ?_) rfl (by kernel_rfl) (by kernel_rfl) (by kernel_rfl) (fun _ _ _ h => h) (Or.inl ⟨by rfl, ?_⟩) (by assumption) ?_; rotate_left; (focus (intro w hSw; (try dsimp only at hSw); go_simp; (try with_reducible rfl); done)); (try simp only [put_rules]))
    (refine wpAnyH_take (i := 1) (v := ?_) rfl (by kernel_rfl) (by kernel_rfl) (by kernel_rfl) (fun _ _ _ h => h) (Or.inl ⟨by rfl, ?_⟩) (by assumption) ?_; rotate_left; (focus (intro w hSw; (try dsimp only at hSw); go_simp; (try with_reducible rfl); done)); (try simp only [put_rules]))
    (refine wpAnyH_take (i := 7) (v := ?_) rfl (by kernel_rfl) (by kernel_rfl) (by kernel_rfl) (fun _ _ _ h => h) (Or.inl ⟨by rfl, ?_⟩) (by assumption) ?_; rotate_left; (focus (intro w hSw; (try dsimp only at hSw); go_simp; (try with_reducible rfl); done)); (try simp only [put_rules]))
    (refine wpAnyH_take (i := 8) (v := ?_) rfl (by kernel_rfl) (by kernel_rfl) (by kernel_rfl) (fun _ _ _ h => h) (Or.inl ⟨by rfl, ?_⟩) (by assumption) ?_; rotate_left; (focus (intro w hSw; (try dsimp only at hSw); go_simp; (try with_reducible rfl); done)); (try simp only [put_rules]))
    (refine wpAnyH_ready (rs := [2]) (by kernel_rfl) (by simp) ?_; refine AllReadyH.cons rfl (fun K hK => ?_) AllReadyH.nil)
    go_simp
    go_at_call 108
    refine (ha _).mono ?_
    rintro e w1 ⟨rfl, hb1⟩
    have hB1 := btr (bdr (bb w)) hb1
    have k1 := ((bcell hB1).1 g 0 (World.block_lt_of_cell? _ _ k0)).trans k0
    go_wp2_with fail
    refine hK.out _ _ k1 (fun hS2 => ?_)
    clear hK hS
    (try simp only [put_rules])
    (refine wpAnyH_take (i := 3) (v := ?_) rfl (by kernel_rfl) (by kernel_rfl) (by kernel_rfl) (fun _ _ _ h => h) (Or.inl ⟨by rfl, ?_⟩) (by assumption) ?_; rotate_left; (focus (intro w hSw; (try dsimp only at hSw); go_simp; (try with_reducible rfl); done)); (try simp only [put_rules]))
    (refine wpAnyH_take (i := 4) (v := ?_) rfl (by kernel_rfl) (by kernel_rfl) (by kernel_rfl) (fun _ _ _ h => h) (Or.inl ⟨by rfl, ?_⟩) (by assumption) ?_; rotate_left; (focus (intro w hSw; (try dsimp only at hSw); go_simp; (try with_reducible rfl); done)); (try simp only [put_rules]))
    (refine wpAnyH_take (i := 5) (v := ?_) rfl (by kernel_rfl) (by kernel_rfl) (by kernel_rfl) (fun _ _ _ h => h) (Or.inl ⟨by rfl, ?_⟩) (by assumption) ?_; rotate_left; (focus (intro w hSw; (try dsimp only at hSw); go_simp; (try with_reducible rfl); done)); (try simp only [put_rules]))
    (refine wpAnyH_take (i := 6) (v := ?_) rfl (by kernel_rfl) (by kernel_rfl) (by kernel_rfl) (fun _ _ _ h => h) (Or.inl ⟨by rfl, ?_⟩) (by assumption) ?_; rotate_left; (focus (intro w hSw; (try dsimp only at hSw); go_simp; (try with_reducible rfl); done)); (try simp only [put_rules]))
    (refine wpAnyH_take (i := 9) (v := ?_) rfl (by kernel_rfl) (by kernel_rfl) (by kernel_rfl) (fun _ _ _ h => h) (Or.inl ⟨by rfl, ?_⟩) (by assumption) ?_; rotate_left; (focus (intro w hSw; (try dsimp only at hSw); go_simp; (try with_reducible rfl); done)); (try simp only [put_rules]))
    (refine wpAnyH_take (i := 10) (v := ?_) rfl (by kernel_rfl) (by kernel_rfl) (by kernel_rfl) (fun _ _ _ h => h) (Or.inl ⟨by rfl, ?_⟩) (by assumption) ?_; rotate_left; (focus (intro w hSw; (try dsimp only at hSw); go_simp; (try with_reducible rfl); done)); (try simp only [put_rules]))
    (refine wpAnyH_done (by kernel_rfl) ?_ _)
    go_wp2_with fail
    go_ret
    exact ⟨ret_bool hR.out.symm, hB1⟩

set_option maxRecDepth 100000 in
theorem holds_any (c : List Int) (hc : ∀ l ∈ c, LitS l) (hl : c.length ≤ 1000000) (A : Option Addr) (cap b : Nat) (hb : b < 2 ^ 62) (w : World) (hx : IntsAt w A c) :
    Calls Try.prog 87 #[.slice A c.length cap, .int .i64 b] w fun e w' => e = .returned (.bool (clT c b)) ∧ Below w.heap.size w w' := by
  have hB := bal (bb w) (.cells #[.int .i64 b] 3)
  have k0 : (w.alloc (.cells #[.int .i64 b] 3)).cell? ⟨w.heap.size, 0, none⟩ = some (.int .i64 b) := cell_of_row _ _ _ _ _ _ (heap_alloc_new w _)
  have eg : Enter1 112 := enters_of Try.func112 (by kernel_rfl) rfl
  have hf : FnI LitS (w.alloc (.cells #[.int .i64 b] 3)) 112 #[.pointer (some ⟨w.heap.size, 0, none⟩)] (litT b) := by
    intro x W hx hbl
    exact holds1_any x hx b w.heap.size hb W (((bcell hbl).1 w.heap.size 0 (by simp)).trans k0)
  have hcall := Lib.hid (containsI_any eg c A cap _ (hx.grow hB) hl hc hf)
  rw [show c.any (litT b) = clT c b from rfl] at hcall
  clear hx k0 eg hf
  go_enter Try.func87, Try.ntmps87
  go_wp2_with fail
  refine hcall.out.mono ?_
  rintro e w1 ⟨rfl, hb1⟩
  have hB2 := btr hB hb1
  clear hcall hb1 hB
  go_wp2_with fail
  go_ret
  exact ⟨rfl, hB2⟩

/-- A model: all clauses are true. -/
def modT (xss : List (List Int)) (b : Nat) : Bool := xss.all fun c => clT c b
def ClS (c : List Int) : Prop := (∀ l ∈ c, LitS l) ∧ c.length ≤ 1000
set_option maxRecDepth 100000 in
theorem isModel1_any (c : List Int) (hc : ClS c) (A : Option Addr) (cap b g : Nat) (hb : b < 2 ^ 62) (w : World) (hx : IntsAt w A c) (k0 : w.cell? ⟨g, 0, none⟩ = some (.int .i64 b)) :
    Calls Try.prog 86 #[.slice A c.length cap, .pointer (some ⟨g, 0, none⟩)] w fun e w' => e = .returned (.bool (!(clT c b))) ∧ Below w.heap.size w w' := by
  have hcall := Lib.hid (holds_any c hc.1 (by have := hc.2; omega) A cap b hb w hx)
  clear hx
  go_enter Try.func86, Try.ntmps86
  go_wp2_with fail
  refine hcall.out.mono ?_
  rintro e w1 ⟨rfl, hb1⟩
  clear hcall
  go_wp2_with fail
  go_ret
  exact ⟨rfl, hb1⟩

set_option maxRecDepth 100000 in
theorem isModel_any (xss : List (List Int)) (hc : ∀ c ∈ xss, ClS c) (hl : xss.length ≤ 1000000) (A : Option Addr) (cap b : Nat) (hb : b < 2 ^ 62) (w : World) (hx : ClsAt w A xss) :
    Calls Try.prog 47 #[.slice A xss.length cap, .int .i64 b] w fun e w' => e = .returned (.bool (modT xss b)) ∧ Below w.heap.size w w' := by
  have hB := bal (bb w) (.cells #[.int .i64 b] 3)
  have k0 : (w.alloc (.cells #[.int .i64 b] 3)).cell? ⟨w.heap.size, 0, none⟩ = some (.int .i64 b) := cell_of_row _ _ _ _ _ _ (heap_alloc_new w _)
  have eg : Enter1 86 := enters_of Try.func86 (by kernel_rfl) rfl
  have hf : FnS ClS (w.alloc (.cells #[.int .i64 b] 3)) 86 #[.pointer (some ⟨w.heap.size, 0, none⟩)] (fun c => !(clT c b)) := by
    intro x B cp W hI hx hbl
    exact isModel1_any x hx B cp b w.heap.size hb W hI (((bcell hbl).1 w.heap.size 0 (by simp)).trans k0)
  have hcall := Lib.hid (containsS_any eg xss A cap _ (hx.grow hB) hl hc hf)
  have hR : Hid (modT xss b = !(xss.any fun c => !(clT c b))) := by
    unfold Hid modT
    rw [List.all_eq_not_any_not]
  generalize (xss.any fun c => !(clT c b)) = q at *
  clear hx k0 eg hf
  go_enter Try.func47, Try.ntmps47
  go_wp2_with fail
  refine hcall.out.mono ?_
  rintro e w1 ⟨rfl, hb1⟩
  have hB2 := btr hB hb1
  clear hcall hb1 hB
  go_wp2_with fail
  go_ret
  exact ⟨ret_bool hR.out.symm, hB2⟩
end Go.Proofs.Ytkhopkonddgicaa

/- Plain facts: the circuit of a Cnf and its values. No program in sight. -/
namespace Go.Proofs.Ytkhopkonddgicaa

def baseG (n : Nat) : List Gt := ((List.range n).map fun (v : Nat) => (⟨1, (v : Int) + 1, 0⟩ : Gt)) ++ ((List.range n).map fun (v : Nat) => (⟨4, (v : Int), 0⟩ : Gt)) ++ [⟨2, 0, 0⟩, ⟨3, 0, 0⟩]
def litIx (n : Nat) (l : Int) : Int := if l < 0 then n - l - 1 else l - 1
def litG (n : Nat) (s : List Gt × Nat) (l : Int) : List Gt × Nat := (s.1 ++ [⟨6, (s.2 : Nat), litIx n l⟩], s.1.length)
def clG (n : Nat) (s : List Gt × Nat) (c : List Int) : List Gt × Nat :=
  ((c.foldl (litG n) (s.1, 2 * n + 1)).1 ++ [⟨5, (s.2 : Nat), ((c.foldl (litG n) (s.1, 2 * n + 1)).2 : Nat)⟩], (c.foldl (litG n) (s.1, 2 * n + 1)).1.length)
def cnfG (n : Nat) (xss : List (List Int)) : List Gt × Nat := xss.foldl (clG n) (baseG n, 2 * n)
def circR (n : Nat) (xss : List (List Int)) : List Gt := (cnfG n xss).1 ++ (if xss = [] then [⟨2, 0, 0⟩] else [])

theorem base_len (n : Nat) : (baseG n).length = 2 * n + 2 := by simp [baseG]; omega
theorem base_var {n v : Nat} (h : v < n) : (baseG n)[v]? = some ⟨1, (v : Int) + 1, 0⟩ := by
  unfold baseG
  rw [List.append_assoc, List.getElem?_append_left (by simp; exact h)]; simp [h]
theorem base_not {n v : Nat} (h : v < n) : (baseG n)[n + v]? = some ⟨4, (v : Int), 0⟩ := by
  unfold baseG
  rw [List.append_assoc, List.getElem?_append_right (by simp), List.getElem?_append_left (by simp; omega)]; simp [h]
theorem base_two (n : Nat) : (baseG n)[2 * n]? = some ⟨2, 0, 0⟩ ∧ (baseG n)[2 * n + 1]? = some ⟨3, 0, 0⟩ := by
  unfold baseG
  refine ⟨?_, ?_⟩
  · rw [List.getElem?_append_right (by simp; omega)]
    simp only [List.length_append, List.length_map, List.length_range]
    rw [show 2 * n - (n + n) = 0 by omega]; rfl
  · rw [List.getElem?_append_right (by simp; omega)]
    simp only [List.length_append, List.length_map, List.length_range]
    rw [show 2 * n + 1 - (n + n) = 1 by omega]; rfl
theorem get_of {l : List Gt} {i : Nat} {g : Gt} (h : l[i]? = some g) (hi : i < l.length) : l[i] = g := by
  rw [List.getElem?_eq_getElem hi] at h; exact Option.some.inj h
theorem base_ok (n : Nat) : OkG n (baseG n) := by
  intro i hi
  have hl := base_len n
  rcases Nat.lt_or_ge i n with h | h
  · rw [get_of (base_var h) hi, gtB_iff]; dsimp only; omega
  rcases Nat.lt_or_ge i (2 * n) with h2 | h2
  · obtain ⟨v, rfl⟩ : ∃ v, i = n + v := ⟨i - n, by omega⟩
    rw [get_of (base_not (v := v) (by omega)) hi, gtB_iff]; dsimp only; omega
  · rcases (show i = 2 * n ∨ i = 2 * n + 1 by omega) with rfl | rfl
    · rw [get_of (base_two n).1 hi, gtB_iff]; dsimp only; omega
    · rw [get_of (base_two n).2 hi, gtB_iff]; dsimp only; omega
theorem base_true (n bits : Nat) : gval bits (baseG n) (2 * n) = true := by
  rw [(base_ok n).val bits (show 2 * n < (baseG n).length by rw [base_len]; omega), get_of (base_two n).1]; rfl
theorem base_false (n bits : Nat) : gval bits (baseG n) (2 * n + 1) = false := by
  rw [(base_ok n).val bits (show 2 * n + 1 < (baseG n).length by rw [base_len]; omega), get_of (base_two n).2]; rfl
theorem base_lit {n : Nat} {l : Int} (h0 : l ≠ 0) (h1 : -(n : Int) ≤ l) (h2 : l ≤ n) (bits : Nat) : 0 ≤ litIx n l ∧ (litIx n l).toNat < 2 * n ∧ gval bits (baseG n) (litIx n l).toNat = litT bits l := by
  have hvar : ∀ v, v < n → gval bits (baseG n) v = bits.testBit v := fun v hv => by
    rw [(base_ok n).val bits (show v < (baseG n).length by rw [base_len]; omega), get_of (base_var hv)]
    simp [gv, bitG]
  unfold litIx litT
  by_cases hn : l < 0
  · rw [if_pos hn]
    obtain ⟨v, rfl⟩ : ∃ v : Nat, l = -((v : Int) + 1) := ⟨(-l - 1).toNat, by omega⟩
    have e : ((n : Int) - -((v : Int) + 1) - 1).toNat = n + v := by omega
    have hv : v < n := by omega
    refine ⟨by omega, by omega, ?_⟩
    rw [e, (base_ok n).val bits (show n + v < (baseG n).length by rw [base_len]; omega), get_of (base_not hv)]
    have e2 : (-((v : Int) + 1)).natAbs - 1 = v := by omega
    have e3 : decide ((0 : Int) < -((v : Int) + 1)) = false := decide_eq_false (by omega)
    rw [e2, e3]
    simp [gv, hvar v hv]
  · rw [if_neg hn]
    obtain ⟨v, rfl⟩ : ∃ v : Nat, l = (v : Int) + 1 := ⟨(l - 1).toNat, by omega⟩
    have e : ((v : Int) + 1 - 1).toNat = v := by omega
    have hv : v < n := by omega
    refine ⟨by omega, by omega, ?_⟩
    have e2 : ((v : Int) + 1).natAbs - 1 = v := by omega
    have e3 : decide ((0 : Int) < (v : Int) + 1) = true := decide_eq_true (by omega)
    rw [e, hvar v hv, e2, e3]
    simp
/-- What is known while clauses are added: the base lies ahead; the number's value is this. -/
structure CInv (n : Nat) (s : List Gt × Nat) (val : Nat → Bool) : Prop where
  pre : ∃ ms, s.1 = baseG n ++ ms
  ok : OkG n s.1
  lt : s.2 < s.1.length
  val : ∀ bits, gval bits s.1 s.2 = val bits
def LitN (n : Nat) (l : Int) : Prop := l ≠ 0 ∧ -(n : Int) ≤ l ∧ l ≤ n
theorem CInv.lit {n : Nat} {s : List Gt × Nat} {val : Nat → Bool} {l : Int} (h : CInv n s val) (hl : LitN n l) : CInv n (litG n s l) (fun bits => val bits || litT bits l) := by
  obtain ⟨ms, hms⟩ := h.pre
  have hb := base_len n
  have hlen : (baseG n).length ≤ s.1.length := by rw [hms, List.length_append]; omega
  obtain ⟨b0, b1, -⟩ := base_lit hl.1 hl.2.1 hl.2.2 0
  have hlt := h.lt
  have hg : gtB n s.1.length ⟨6, (s.2 : Nat), litIx n l⟩ = true := by rw [gtB_iff]; dsimp only; omega
  unfold litG
  refine ⟨⟨ms ++ [⟨6, (s.2 : Nat), litIx n l⟩], by dsimp only; rw [hms, List.append_assoc]⟩, h.ok.snoc hg, by simp, fun bits => ?_⟩
  dsimp only
  rw [gval_new]
  have e := h.val bits
  have e2 : gval bits s.1 (litIx n l).toNat = litT bits l := by
    rw [hms, gval_pre (by omega)]
    exact (base_lit hl.1 hl.2.1 hl.2.2 bits).2.2
  simp [gv, e, e2]
theorem CInv.lits {n : Nat} : ∀ {c : List Int} {s : List Gt × Nat} {val : Nat → Bool}, CInv n s val → (∀ l ∈ c, LitN n l) → CInv n (c.foldl (litG n) s) (fun bits => val bits || c.any (litT bits)) ∧ ∃ ms, (c.foldl (litG n) s).1 = s.1 ++ ms
  | [], s, val, h, _ => ⟨⟨h.pre, h.ok, h.lt, fun bits => by simp [h.val]⟩, [], by simp⟩
  | l :: c, s, val, h, hl => by
    obtain ⟨h1, ms, h2⟩ := (h.lit (hl l (by simp))).lits (c := c) (fun x hx => hl x (by simp [hx]))
    rw [List.foldl_cons]
    refine ⟨⟨h1.pre, h1.ok, h1.lt, fun bits => by rw [h1.val, List.any_cons, Bool.or_assoc]⟩, [⟨6, (s.2 : Nat), litIx n l⟩] ++ ms, ?_⟩
    rw [h2, ← List.append_assoc]; rfl
theorem CInv.clause {n : Nat} {s : List Gt × Nat} {val : Nat → Bool} {c : List Int} (h : CInv n s val) (hc : ∀ l ∈ c, LitN n l) : CInv n (clG n s c) (fun bits => val bits && clT c bits) := by
  have hb := base_len n
  obtain ⟨ms, hms⟩ := h.pre
  have hlen : (baseG n).length ≤ s.1.length := by rw [hms, List.length_append]; omega
  have h0 : CInv n (s.1, 2 * n + 1) (fun _ => false) := ⟨⟨ms, hms⟩, h.ok, by dsimp only; omega, fun bits => by
    dsimp only
    rw [hms, gval_pre (by omega)]; exact base_false n bits⟩
  obtain ⟨h1, ks, hks⟩ := h0.lits (c := c) hc
  have hlt := h.lt
  have hl1 := h1.lt
  have hlen2 : s.1.length ≤ (c.foldl (litG n) (s.1, 2 * n + 1)).1.length := by rw [hks, List.length_append]; dsimp only; omega
  have hold : ∀ bits, gval bits (c.foldl (litG n) (s.1, 2 * n + 1)).1 s.2 = val bits := fun bits => by rw [hks, gval_pre hlt]; exact h.val bits
  unfold clG
  generalize c.foldl (litG n) (s.1, 2 * n + 1) = t at *
  have hg : gtB n t.1.length ⟨5, (s.2 : Nat), (t.2 : Nat)⟩ = true := by rw [gtB_iff]; dsimp only; omega
  refine ⟨?_, h1.ok.snoc hg, by simp, fun bits => ?_⟩
  · obtain ⟨ms2, hms2⟩ := h1.pre
    exact ⟨ms2 ++ [⟨5, (s.2 : Nat), (t.2 : Nat)⟩], by dsimp only; rw [hms2, List.append_assoc]⟩
  · dsimp only
    rw [gval_new]
    simp [gv, hold bits, h1.val bits, clT]
theorem CInv.clauses {n : Nat} : ∀ {xss : List (List Int)} {s : List Gt × Nat} {val : Nat → Bool}, CInv n s val → (∀ c ∈ xss, ∀ l ∈ c, LitN n l) → CInv n (xss.foldl (clG n) s) (fun bits => val bits && modT xss bits)
  | [], s, val, h, _ => ⟨h.pre, h.ok, h.lt, fun bits => by simp [h.val, modT]⟩
  | c :: xss, s, val, h, hc => by
    have h1 := (h.clause (hc c (by simp))).clauses (xss := xss) (fun x hx => hc x (by simp [hx]))
    rw [List.foldl_cons]
    exact ⟨h1.pre, h1.ok, h1.lt, fun bits => by rw [h1.val]; simp [modT, Bool.and_assoc]⟩
theorem cnf_inv {n : Nat} {xss : List (List Int)} (h : ∀ c ∈ xss, ∀ l ∈ c, LitN n l) : CInv n (cnfG n xss) (modT xss) := by
  have h0 : CInv n (baseG n, 2 * n) (fun _ => true) := ⟨⟨[], by simp⟩, base_ok n, by dsimp only; rw [base_len]; omega, base_true n⟩
  have := h0.clauses h
  exact ⟨this.pre, this.ok, this.lt, fun bits => by rw [show cnfG n xss = xss.foldl (clG n) (baseG n, 2 * n) from rfl, this.val]; rfl⟩
theorem clG_last (n : Nat) (s : List Gt × Nat) (c : List Int) : (clG n s c).1.length = (clG n s c).2 + 1 := by simp [clG]
theorem cnf_last (n : Nat) {xss : List (List Int)} (h : xss ≠ []) : (cnfG n xss).1.length = (cnfG n xss).2 + 1 := by
  induction xss using snoc_ind with
  | h0 => exact absurd rfl h
  | h1 l a _ =>
    unfold cnfG
    rw [List.foldl_append]
    exact clG_last n _ _
/-- The circuit of a Cnf is valid and true just for its models. -/
theorem circ_value {n : Nat} {xss : List (List Int)} (h : ∀ c ∈ xss, ∀ l ∈ c, LitN n l) : OkG n (circR n xss) ∧ ∀ bits, cval (circR n xss) bits = modT xss bits := by
  have hi := cnf_inv h
  unfold circR
  by_cases e : xss = []
  · rw [if_pos e]
    refine ⟨hi.ok.snoc rfl, fun bits => ?_⟩
    unfold cval
    rw [List.length_append, List.length_singleton, Nat.add_sub_cancel, gval_new, e]; rfl
  · rw [if_neg e, List.append_nil]
    refine ⟨hi.ok, fun bits => ?_⟩
    unfold cval
    rw [cnf_last n e, Nat.add_sub_cancel]; exact hi.val bits
end Go.Proofs.Ytkhopkonddgicaa

/- Contracts: all models in order, in the program. -/
namespace Go.Proofs.Ytkhopkonddgicaa
open Go.RowKit

theorem pow12 {v : Nat} (hv : v ≤ 12) : wrap64 ((2 : Int) ^ v) = ((2 ^ v : Nat) : Int) ∧ 2 ^ v ≤ 4096 := by
  match v, hv with
  | 0, _ | 1, _ | 2, _ | 3, _ | 4, _ | 5, _ | 6, _ | 7, _ | 8, _ | 9, _ | 10, _ | 11, _ | 12, _ => exact ⟨by unfold wrap64; decide, by decide⟩

set_option maxRecDepth 100000 in
set_option maxHeartbeats 4000000 in
theorem models_any {g : FuncId} {cb : Array Value} (eg : Enter1 g) (n : Nat) (hn : n ≤ 12) (xss : List (List Int)) (hc : ∀ c ∈ xss, ClS c) (hl : xss.length ≤ 1000000) (A : Option Addr) (cap : Nat) (w : World)
    (F : List Nat) (hF : ∀ b ∈ F, b < w.heap.size) (P : Nat → World → Prop) (h0 : P 0 w) (hgrow : ∀ k w w', P k w → Below w.heap.size w w' → P k w') (hcls : ∀ k w, P k w → ClsAt w A xss)
    (hnot : ∀ k w, modT xss k = false → P k w → P (k + 1) w)
    (hstep : ∀ k w, k < 2 ^ n → modT xss k = true → P k w → Calls Try.prog g (#[.int .i64 k] ++ cb) w fun e w' => ∃ q : Bool, e = .returned (.bool q) ∧ Chg F w w' ∧ (if q then P (k + 1) w' else P (2 ^ n) w')) :
    Calls Try.prog 43 #[.agg #[.int .i64 n, .slice A xss.length cap], .func (.func g) #[] cb] w fun e w' => e = .returned (.tuple #[]) ∧ P (2 ^ n) w' := by
  unfold Enter1 at eg
  obtain ⟨hsh, hp⟩ := pow12 hn
  generalize 2 ^ n = N at *
  have c0 : (w.alloc (.cells #[.int .i64 n, .slice A xss.length cap] 26)).cell? ⟨w.heap.size, 0, none⟩ = some (.int .i64 n) := cell_of_row _ _ _ _ _ _ (heap_alloc_new w _)
  have c1 : (w.alloc (.cells #[.int .i64 n, .slice A xss.length cap] 26)).cell? ⟨w.heap.size, 1, none⟩ = some (.slice A xss.length cap) := cell_of_row _ _ _ _ _ _ (heap_alloc_new w _)
  have HP0 := Lib.hid (hgrow 0 w _ h0 (bal (bb w) (.cells #[.int .i64 n, .slice A xss.length cap] 26)))
  have hFF : w.heap.size ∉ F := fun h => by have := hF _ h; omega
  replace hgrow := Lib.hid hgrow
  replace hcls := Lib.hid hcls
  replace hnot := Lib.hid hnot
  replace hstep := Lib.hid hstep
  have hcc := Lib.hid hc
  replace hFF := Lib.hid hFF
  clear h0 hc hF
  go_enter Try.func43, Try.ntmps43
  go_wp2_with fail
  rw [hsh]
  go_loopw [4, 8] (fun _ i wr => ∃ k : Nat, k ≤ N ∧ i = .int .i64 k ∧ wr.cell? ⟨w.heap.size, 1, none⟩ = some (.slice A xss.length cap) ∧ Hid (P k wr)) (fun _ i _ => N - (intOf i).toNat)
  case atStart => exact ⟨0, Nat.zero_le _, rfl, c1, HP0⟩
  case round =>
    obtain ⟨k, hk, rfl, d1, HP⟩ := hrel
    clear HP0 c0 c1
    by_cases hlt : k < N
    · have hcall := Lib.hid (isModel_any xss hcc.out hl A cap k (Nat.lt_of_lt_of_le hlt (Nat.le_trans hp (by decide))) wr (hcls.out k wr HP.out))
      cases hq : modT xss k
      · rw [hq] at hcall
        go_wp2_with fail
        refine hcall.out.mono ?_
        rintro e w1 ⟨rfl, hb1⟩
        have HP2 := Lib.hid (hnot.out k w1 hq (hgrow.out k wr w1 HP.out hb1))
        have d2 := ((bcell hb1).1 _ _ (World.block_lt_of_cell? _ _ d1)).trans d1
        clear hcall hb1 HP d1
        go_wp2_with fail
        go_roundw
        case rel => exact ⟨k + 1, by omega, by go_num, d2, HP2⟩
        case measure => simp [intOf]; omega
      · rw [hq] at hcall
        go_wp2_with fail
        refine hcall.out.mono ?_
        rintro e w1 ⟨rfl, hb1⟩
        have hst := Lib.hid (hstep.out k w1 hlt hq (hgrow.out k wr w1 HP.out hb1))
        have d2 := ((bcell hb1).1 _ _ (World.block_lt_of_cell? _ _ d1)).trans d1
        clear hcall hb1 HP d1
        go_wp2_with fail
        refine hst.out.mono ?_
        rintro e w2 ⟨q, rfl, hch, hP2⟩
        have d3 := (World.cell?_of_block (a := ⟨w.heap.size, 1, none⟩) (hch.block _ (World.block_lt_of_cell? _ _ d2) hFF.out)).trans d2
        cases q
        · replace hP2 := Lib.hid hP2
          clear hst hch d2
          go_wp2_with fail
          have hP3 : P N w2 := hP2.out
          exact bodyPost_ret (v := .tuple #[]) (by simp [results, Try.results43, go_sem]) rfl ⟨rfl, hP3⟩
        · have HP2 : Hid (P (k + 1) w2) := hP2
          clear hst hch d2 hP2
          go_wp2_with fail
          go_roundw
          case rel => exact ⟨k + 1, by omega, by go_num, d3, HP2⟩
          case measure => simp [intOf]; omega
    · obtain rfl : k = N := by omega
      go_wp2_with fail
      exact bodyPost_end (v := .tuple #[]) (by simp [results, Try.results43, go_sem]) rfl ⟨rfl, HP.out⟩
end Go.Proofs.Ytkhopkonddgicaa

/- Contracts: satisfiable Cnfs, counts of models, in the program. -/
namespace Go.Proofs.Ytkhopkonddgicaa
open Go.RowKit

/-- From a row of rows to clauses that can be read. -/
theorem cls_row {wr : Bool} {w : World} {v : Value} {xss : List (List Int)} {F : List Nat} (h : (Ty.slice Ty.int).row wr w v xss F) : ∃ A c, v = .slice A xss.length c ∧ ClsAt w A xss := by
  obtain ⟨a, cap, rfl, _, _, h3⟩ := row_slices h
  refine ⟨a, cap, rfl, ⟨fun j hj => ?_⟩⟩
  rcases h3 with ⟨rfl, _⟩ | ⟨_, b, off, rfl, _, hc⟩
  · exact absurd hj (by simp)
  · obtain ⟨u, Fk, hu, hr, _⟩ := hc j hj
    obtain ⟨B, c, rfl, hI⟩ := ints_row hr
    exact ⟨b, off, B, c, rfl, hu.1, hI⟩
theorem lit_small {vars l : Int} (hv : 0 ≤ vars ∧ vars ≤ 12) (h : litB vars l = true) : l ≠ 0 ∧ -vars ≤ l ∧ l ≤ vars := by
  unfold litB inB at h
  rw [negV_small (by unfold I64; omega) (by omega)] at h
  simp only [Bool.and_eq_true, decide_eq_true_eq, bne_iff_ne] at h
  omega
theorem clause_parts {vars : Int} {c : List Int} (h : clauseB vars c = true) : (0 ≤ vars ∧ vars ≤ 12) ∧ (∀ l ∈ c, l ≠ 0 ∧ -vars ≤ l ∧ l ≤ vars) ∧ ∀ i (h : i + 1 < c.length), c[i].natAbs < c[i + 1].natAbs := by
  unfold clauseB inB cOkTo at h
  simp only [Bool.and_eq_true, decide_eq_true_eq, List.all_eq_true, List.mem_range] at h
  obtain ⟨hv, hc⟩ := h
  have hlit : ∀ i (hi : i < c.length), litB vars c[i] = true := fun i hi => by
    have := hc i hi
    unfold cOk at this
    rw [Bool.and_eq_true, List.getD_eq_getElem?_getD, List.getElem?_eq_getElem hi] at this
    exact this.1
  refine ⟨hv, fun l hl => ?_, fun i hi => ?_⟩
  · obtain ⟨i, hi, rfl⟩ := List.getElem_of_mem hl
    exact lit_small hv (hlit i hi)
  · have h1 := hc (i + 1) hi
    unfold cOk at h1
    rw [Bool.and_eq_true, Bool.or_eq_true] at h1
    have h2 := h1.2
    simp only [beq_iff_eq, Nat.add_eq_zero_iff, Nat.succ_ne_self, and_false, false_or, decide_eq_true_eq, Nat.add_sub_cancel] at h2
    rw [List.getD_eq_getElem?_getD, List.getD_eq_getElem?_getD, List.getElem?_eq_getElem hi, List.getElem?_eq_getElem (by omega)] at h2
    simp only [Option.getD_some] at h2
    have a1 := lit_small hv (hlit i (by omega))
    have a2 := lit_small hv (hlit (i + 1) hi)
    rw [absV_lit ⟨a1.1, by omega, by omega⟩, absV_lit ⟨a2.1, by omega, by omega⟩] at h2
    omega
theorem clause_rising {vars : Int} {c : List Int} (h : clauseB vars c = true) : c.Pairwise (fun a b => a.natAbs < b.natAbs) := by
  have h3 := (clause_parts h).2.2
  clear h
  induction c with
  | nil => exact .nil
  | cons a c ih =>
    have hc := ih (fun i hi => by have := h3 (i + 1) (by simp; omega); simpa using this)
    refine List.pairwise_cons.2 ⟨fun b hb => ?_, hc⟩
    cases c with
    | nil => simp at hb
    | cons d c =>
      have h0 := h3 0 (by simp)
      simp only [List.getElem_cons_zero, List.getElem_cons_succ] at h0
      rcases List.mem_cons.1 hb with rfl | hb
      · exact h0
      · exact Nat.lt_trans h0 ((List.pairwise_cons.1 hc).1 b hb)
theorem rising_len {m : Nat} : ∀ {c : List Int} {k : Nat}, c.Pairwise (fun a b => a.natAbs < b.natAbs) → (∀ l ∈ c, k ≤ l.natAbs ∧ l.natAbs < k + m) → c.length ≤ m
  | [], _, _, _ => by simp
  | a :: c, k, hp, hb => by
    have ha := hb a (by simp)
    have hp' := List.pairwise_cons.1 hp
    have := rising_len (m := m - (a.natAbs - k) - 1) (k := a.natAbs + 1) hp'.2 (fun l hl => by have := hp'.1 l hl; have := hb l (by simp [hl]); omega)
    simp only [List.length_cons]
    omega
theorem clause_s {vars : Int} {c : List Int} (h : clauseB vars c = true) : ClS c := by
  have hp := clause_parts h
  refine ⟨fun l hl => ?_, ?_⟩
  · have := hp.2.1 l hl
    exact ⟨this.1, by omega, by omega⟩
  · have := rising_len (m := 12) (k := 1) (clause_rising h) (fun l hl => by have := hp.2.1 l hl; omega)
    omega
theorem good_cnf {vars : Int} {xss : List (List Int)} (h : goodB vars xss = true) : (0 ≤ vars ∧ vars ≤ 12) ∧ xss.length ≤ 60 ∧ (∀ c ∈ xss, clauseB vars c = true) ∧ ∀ c ∈ xss, ClS c := by
  unfold goodB inB at h
  simp only [Bool.and_eq_true, decide_eq_true_eq, List.all_eq_true] at h
  exact ⟨h.1.1, h.1.2, h.2, fun c hc => clause_s (h.2 c hc)⟩

/- left out: the seat has no impl.satisfiable -/

/- left out: the seat has no impl.IsSatisfiable -/
end Go.Proofs.Ytkhopkonddgicaa

/- Plain facts: the circuit of a Cnf, gate by gate. No program in sight. -/
namespace Go.Proofs.Ytkhopkonddgicaa

theorem litsG_len (n : Nat) : ∀ (c : List Int) (s : List Gt × Nat), (c.foldl (litG n) s).1.length = s.1.length + c.length
  | [], s => rfl
  | l :: c, s => by
    rw [List.foldl_cons, litsG_len n c, List.length_cons]
    simp [litG]; omega
theorem lits_take {n q : Nat} {c : List Int} (s : List Gt × Nat) (h : q < c.length) : (c.take (q + 1)).foldl (litG n) s = litG n ((c.take q).foldl (litG n) s) c[q] := by
  rw [List.take_succ_eq_append_getElem h, List.foldl_append]
  rfl
theorem cnfG_take {n j : Nat} {xss : List (List Int)} (h : j < xss.length) : cnfG n (xss.take (j + 1)) = clG n (cnfG n (xss.take j)) xss[j] := by
  unfold cnfG
  rw [List.take_succ_eq_append_getElem h, List.foldl_append]
  rfl
theorem clG_len (n : Nat) (s : List Gt × Nat) (c : List Int) : (clG n s c).1.length = s.1.length + c.length + 1 := by
  unfold clG
  dsimp only
  rw [List.length_append, litsG_len]
  rfl
theorem cnfG_len {n : Nat} : ∀ {xss : List (List Int)}, (∀ c ∈ xss, c.length ≤ 1000) → (cnfG n xss).1.length ≤ 2 * n + 2 + 1001 * xss.length := by
  intro xss
  induction xss using snoc_ind with
  | h0 => intro _; show (baseG n).length ≤ _; rw [base_len]; omega
  | h1 l a ih =>
    intro h
    have h1 := ih (fun c hc => h c (by simp [hc]))
    have h2 := h a (by simp)
    have e : cnfG n (l ++ [a]) = clG n (cnfG n l) a := by unfold cnfG; rw [List.foldl_append]; rfl
    rw [e, clG_len, List.length_append, List.length_singleton]
    omega
/-- The literals of a valid Cnf. -/
theorem good_lits {n : Nat} {xss : List (List Int)} (h : goodB n xss = true) : ∀ c ∈ xss, ∀ l ∈ c, LitN n l := by
  intro c hc l hl
  have hp := clause_parts ((good_cnf h).2.2.1 c hc)
  have := hp.2.1 l hl
  unfold LitN
  omega
/-- The first gates. -/
def base1 (j : Nat) : List Gt := (List.range j).map fun (v : Nat) => (⟨1, (v : Int) + 1, 0⟩ : Gt)
def base2 (n j : Nat) : List Gt := base1 n ++ (List.range j).map fun (v : Nat) => (⟨4, (v : Int), 0⟩ : Gt)
theorem base1_succ (j : Nat) : base1 (j + 1) = base1 j ++ [⟨1, (j : Int) + 1, 0⟩] := by simp [base1, List.range_succ]
theorem base2_succ (n j : Nat) : base2 n (j + 1) = base2 n j ++ [⟨4, (j : Int), 0⟩] := by simp [base2, List.range_succ]
theorem base2_zero (n : Nat) : base2 n 0 = base1 n := by simp [base2]
theorem base1_len (j : Nat) : (base1 j).length = j := by simp [base1]
theorem base2_len (n j : Nat) : (base2 n j).length = n + j := by simp [base2, base1]
theorem base_eq (n : Nat) : baseG n = base2 n n ++ [⟨2, 0, 0⟩, ⟨3, 0, 0⟩] := rfl
end Go.Proofs.Ytkhopkonddgicaa

/- Contracts: gates in memory; valid ones. -/
namespace Go.Proofs.Ytkhopkonddgicaa
open Go.RowKit

/-- A gate in memory: three cells. -/
def gtEnc (g : Gt) : List Value := [.int .i64 g.k, .int .i64 g.a, .int .i64 g.b]
def gtOk (g : Gt) : Prop := I64 g.k ∧ I64 g.a ∧ I64 g.b
abbrev gtV (g : Gt) : Value := .agg #[.int .i64 g.k, .int .i64 g.a, .int .i64 g.b]
/-- The gates of a slice can be read. -/
structure GtAt (w : World) (A : Option Addr) (gs : List Gt) : Prop where
  at_ : ∀ j (hj : j < gs.length), ∃ b off, A = some ⟨b, off, none⟩ ∧ w.cell? ⟨b, off + j * 3, none⟩ = some (.int .i64 gs[j].k) ∧ w.cell? ⟨b, off + j * 3 + 1, none⟩ = some (.int .i64 gs[j].a) ∧ w.cell? ⟨b, off + j * 3 + 2, none⟩ = some (.int .i64 gs[j].b)
  ok : ∀ x ∈ gs, gtOk x
theorem GtAt.grow {w w' : World} {A : Option Addr} {gs : List Gt} (h : GtAt w A gs) (hb : Below w.heap.size w w') : GtAt w' A gs := by
  refine ⟨fun j hj => ?_, h.ok⟩
  obtain ⟨b, off, e, h1, h2, h3⟩ := h.at_ j hj
  exact ⟨b, off, e, (hb.cell (World.block_lt_of_cell? _ _ h1)).trans h1, (hb.cell (World.block_lt_of_cell? _ _ h2)).trans h2, (hb.cell (World.block_lt_of_cell? _ _ h3)).trans h3⟩
/-- The first gates of a slice. -/
theorem GtAt.take {w : World} {A : Option Addr} {gs : List Gt} (h : GtAt w A gs) (n : Nat) : GtAt w A (gs.take n) := by
  refine ⟨fun j hj => ?_, fun x hx => h.ok x (List.mem_of_mem_take hx)⟩
  rw [List.length_take] at hj
  obtain ⟨b, off, e, h1, h2, h3⟩ := h.at_ j (by omega)
  rw [List.getElem_take]
  exact ⟨b, off, e, h1, h2, h3⟩
/-- An own row of gates can be read. -/
theorem gt_own {w : World} {B : Nat} {e : TypeId} {v : Value} {gs : List Gt} (h : w.ownsRow B e 3 v gs.length (gs.flatMap gtEnc)) (hok : ∀ x ∈ gs, gtOk x) : ∃ A c, v = .slice A gs.length c ∧ GtAt w A gs := by
  obtain ⟨_, ⟨rfl, h0⟩ | ⟨g, cap, cur, rfl, _, hh, _, _, hs, ht⟩⟩ := h
  · exact ⟨none, 0, by rw [h0], fun j hj => absurd hj (by omega), hok⟩
  · refine ⟨_, cap, rfl, fun j hj => ⟨g, 0, rfl, ?_⟩, hok⟩
    have key : ∀ i u, i < 3 → (gtEnc gs[j])[i]? = some u → w.cell? ⟨g, j * 3 + i, none⟩ = some u := fun i u hi hu => by
      have := Nat.mul_le_mul_right 3 (show j + 1 ≤ gs.length by omega)
      rw [hown_cell hh ht (by omega), flat_get (enc := gtEnc) (n := 3) (fun _ => rfl) gs j hj i hi, hu]
    refine ⟨?_, ?_, ?_⟩
    · have := key 0 _ (by decide) rfl; rw [Nat.zero_add]; exact this
    · have := key 1 _ (by decide) rfl; rw [Nat.zero_add]; exact this
    · have := key 2 _ (by decide) rfl; rw [Nat.zero_add]; exact this
theorem gt_small {vars : Int} {gs : List Gt} (h : OkG vars gs) (hv : vars ≤ 1000) (hl : gs.length ≤ 1000000) : ∀ x ∈ gs, gtOk x := by
  intro x hx
  obtain ⟨i, hi, rfl⟩ := List.getElem_of_mem hx
  have h1 := gtB_iff.1 (h i hi)
  unfold gtOk I64
  omega

theorem withinG {x a b : Int} {q : Bool} (h : inB x a b = q) (w : World) : Calls Try.prog 46 #[.int .i64 x, .int .i64 a, .int .i64 b] w fun e w' => e = .returned (.bool q) ∧ Below w.heap.size w w' :=
  (within_any x a b w).mono fun e w' ⟨h1, h2⟩ => ⟨by rw [h1, h], h2 ▸ bb _⟩
theorem isVarG {n x : Int} {q : Bool} (h : inB x 1 n = q) (w : World) : Calls Try.prog 75 #[.int .i64 n, .int .i64 x] w fun e w' => e = .returned (.bool q) ∧ Below w.heap.size w w' := by
  subst h
  go_enter Try.func75, Try.ntmps75
  go_wp2_with (go_at_call 46; refine (within_any _ _ _ _).mono ?_; rintro e w1 ⟨rfl, rfl⟩)
  go_ret
  exact ⟨rfl, bb _⟩
theorem varsOkG {v : Int} {q : Bool} (h : inB v 0 12 = q) (w : World) : Calls Try.prog 60 #[.int .i64 v] w fun e w' => e = .returned (.bool q) ∧ Below w.heap.size w w' :=
  (varsOk_any v w).mono fun e w' ⟨h1, h2⟩ => ⟨by rw [h1, h], h2 ▸ bb _⟩

theorem gtB_1 (vars a b : Int) (i : Nat) : gtB vars i ⟨1, a, b⟩ = (inB a 1 vars && decide (b = 0)) := rfl
theorem gtB_2 (vars a b : Int) (i : Nat) : gtB vars i ⟨2, a, b⟩ = (decide (a = 0) && decide (b = 0)) := rfl
theorem gtB_3 (vars a b : Int) (i : Nat) : gtB vars i ⟨3, a, b⟩ = (decide (a = 0) && decide (b = 0)) := rfl
theorem gtB_4 (vars a b : Int) (i : Nat) : gtB vars i ⟨4, a, b⟩ = (inB a 0 ((i : Int) - 1) && decide (b = 0)) := rfl
theorem gtB_5 (vars a b : Int) (i : Nat) : gtB vars i ⟨5, a, b⟩ = (inB a 0 ((i : Int) - 1) && inB b 0 ((i : Int) - 1)) := rfl
theorem gtB_6 (vars a b : Int) (i : Nat) : gtB vars i ⟨6, a, b⟩ = (inB a 0 ((i : Int) - 1) && inB b 0 ((i : Int) - 1)) := rfl
theorem gtB_no {vars k a b : Int} {i : Nat} (h1 : k ≠ 1) (h2 : k ≠ 2) (h3 : k ≠ 3) (h4 : k ≠ 4) (h5 : k ≠ 5) (h6 : k ≠ 6) : gtB vars i ⟨k, a, b⟩ = false := by
  unfold gtB; simp [h1, h2, h3, h4, h5, h6]

set_option maxRecDepth 100000 in
set_option maxHeartbeats 8000000 in
theorem gateOk_any (vars : Int) (i : Nat) (g : Gt) (hi : i ≤ 1000000) (w : World) : Calls Try.prog 59 #[.int .i64 vars, .int .i64 i, gtV g] w fun e w' => e = .returned (.bool (gtB vars i g)) ∧ Below w.heap.size w w' := by
  obtain ⟨k, a, b⟩ := g
  have hB := bal (bb w) (.cells #[.int .i64 k, .int .i64 a, .int .i64 b] 41)
  have hw : IntKind.i64.wrap ((i : Int) - 1) = (i : Int) - 1 := IntWalk.i64_in _ (by omega)
  replace hB := Lib.hid hB
  by_cases h1 : k = 1
  · subst h1
    rw [gtB_1]
    obtain ⟨q, hq⟩ : ∃ q, inB a 1 vars = q := ⟨_, rfl⟩
    rw [hq]
    have hc := Lib.hid (fun W => isVarG hq W)
    cases q <;> by_cases hb : b = 0
    all_goals
      have k2 := Lib.hid (((Sp.start w).alloc_box #[.int .i64 1, .int .i64 a, .int .i64 b] 41).cell (i := 0) rfl (o := 2) rfl)
      first | subst hb | skip
      go_enter Try.func59, Try.ntmps59
      go_wp2_with fail
      refine (hc.out _).mono ?_
      rintro e w1 ⟨rfl, hb1⟩
      have hB2 := btr hB.out hb1
      have k3 := (bcell hb1).1 _ 2 (World.block_lt_of_cell? _ _ k2.out) ▸ k2.out
      clear k2
      go_wp2_with fail
      go_ret
      exact ⟨by first | rfl | simp [hb], hB2⟩
  by_cases h2 : k = 2
  · subst h2
    rw [gtB_2]
    by_cases ha : a = 0 <;> by_cases hb : b = 0
    all_goals
      first | subst ha | skip
      first | subst hb | skip
      go_enter Try.func59, Try.ntmps59
      go_wp2_with fail
      go_ret
      exact ⟨by first | rfl | simp [ha] | simp [hb] | simp [ha, hb], hB.out⟩
  by_cases h3 : k = 3
  · subst h3
    rw [gtB_3]
    by_cases ha : a = 0 <;> by_cases hb : b = 0
    all_goals
      first | subst ha | skip
      first | subst hb | skip
      go_enter Try.func59, Try.ntmps59
      go_wp2_with fail
      go_ret
      exact ⟨by first | rfl | simp [ha] | simp [hb] | simp [ha, hb], hB.out⟩
  by_cases h4 : k = 4
  · subst h4
    rw [gtB_4]
    obtain ⟨q, hq⟩ : ∃ q, inB a 0 ((i : Int) - 1) = q := ⟨_, rfl⟩
    rw [hq]
    have hc := Lib.hid (fun W => withinG hq W)
    cases q <;> by_cases hb : b = 0
    all_goals
      have k2 := Lib.hid (((Sp.start w).alloc_box #[.int .i64 4, .int .i64 a, .int .i64 b] 41).cell (i := 0) rfl (o := 2) rfl)
      first | subst hb | skip
      go_enter Try.func59, Try.ntmps59
      go_wp2_with fail
      refine (hc.out _).mono ?_
      rintro e w1 ⟨rfl, hb1⟩
      have hB2 := btr hB.out hb1
      have k3 := (bcell hb1).1 _ 2 (World.block_lt_of_cell? _ _ k2.out) ▸ k2.out
      clear k2
      go_wp2_with fail
      go_ret
      exact ⟨by first | rfl | simp [hb], hB2⟩
  by_cases h5 : k = 5 ∨ k = 6
  · have hg : gtB vars i ⟨k, a, b⟩ = (inB a 0 ((i : Int) - 1) && inB b 0 ((i : Int) - 1)) := by
      rcases h5 with rfl | rfl
      · rfl
      · rfl
    rw [hg]
    obtain ⟨q, hq⟩ : ∃ q, inB a 0 ((i : Int) - 1) = q := ⟨_, rfl⟩
    obtain ⟨q2, hq2⟩ : ∃ q, inB b 0 ((i : Int) - 1) = q := ⟨_, rfl⟩
    rw [hq, hq2]
    have hc := Lib.hid (fun W => withinG hq W)
    have hc2 := Lib.hid (fun W => withinG hq2 W)
    have k2 := Lib.hid (((Sp.start w).alloc_box #[.int .i64 k, .int .i64 a, .int .i64 b] 41).cell (i := 0) rfl (o := 2) rfl)
    clear hg hq hq2
    rcases h5 with rfl | rfl
    all_goals
      cases q
      · go_enter Try.func59, Try.ntmps59
        go_wp2_with fail
        refine (hc.out _).mono ?_
        rintro e w1 ⟨rfl, hb1⟩
        have hB2 := btr hB.out hb1
        go_wp2_with fail
        go_ret
        exact ⟨rfl, hB2⟩
      · go_enter Try.func59, Try.ntmps59
        go_wp2_with fail
        refine (hc.out _).mono ?_
        rintro e w1 ⟨rfl, hb1⟩
        have hB2 := btr hB.out hb1
        have k3 := (bcell hb1).1 _ 2 (World.block_lt_of_cell? _ _ k2.out) ▸ k2.out
        clear k2
        go_wp2_with fail
        refine (hc2.out _).mono ?_
        rintro e w2 ⟨rfl, hb2⟩
        have hB3 := btr hB2 hb2
        go_wp2_with fail
        go_ret
        exact ⟨rfl, hB3⟩
  · have h5' : k ≠ 5 := fun e => h5 (.inl e)
    have h6' : k ≠ 6 := fun e => h5 (.inr e)
    rw [gtB_no h1 h2 h3 h4 h5' h6']
    clear h5
    go_enter Try.func59, Try.ntmps59
    go_wp2_with fail
    go_ret
    exact ⟨rfl, hB.out⟩
end Go.Proofs.Ytkhopkonddgicaa

/- Contracts: valid circuits, the values of a circuit. -/
namespace Go.Proofs.Ytkhopkonddgicaa
open Go.RowKit

theorem bit_endG (b : Nat) (hb : b < 2 ^ 62) (v : Int) (hv : 1 ≤ v) : bits .and .i64 ((b : Int) / 2 ^ min (v.toNat - 1) 64) 1 = if bitG b v then 1 else 0 := by
  have e0 : (b : Int) / 2 ^ min (v.toNat - 1) 64 = ((b / 2 ^ min (v.toNat - 1) 64 : Nat) : Int) := by
    rw [Int.natCast_ediv, Int.natCast_pow]; rfl
  rw [e0, and_one _ (Nat.lt_of_le_of_lt (Nat.div_le_self _ _) (Nat.lt_trans hb (by decide)))]
  have h64 : ∀ s, 64 ≤ s → b.testBit s = false := fun s hs => Nat.testBit_lt_two_pow (Nat.lt_of_lt_of_le hb (Nat.pow_le_pow_right (by decide) (by omega)))
  have e : bitG b v = b.testBit (min (v.toNat - 1) 64) := by
    unfold bitG
    rw [show (v - 1).toNat = v.toNat - 1 by omega]
    rcases Nat.lt_or_ge (v.toNat - 1) 64 with h | h
    · rw [Nat.min_eq_left (by omega)]
    · rw [h64 _ h, h64 _ (by omega)]
  rw [e, Nat.testBit_eq_decide_div_mod_eq]
  rcases Nat.mod_two_eq_zero_or_one (b / 2 ^ min (v.toNat - 1) 64) with h | h
  · rw [h]; simp
  · rw [h]; simp

set_option maxRecDepth 100000 in
set_option maxHeartbeats 8000000 in
theorem isCircuit_any (vars : Int) (A : Option Addr) (c : Nat) (gs : List Gt) (w : World) (hx : GtAt w A gs) (hl : gs.length ≤ 1000000) :
    Calls Try.prog 21 #[.int .i64 vars, .slice A gs.length c] w fun e w' => e = .returned (.bool (circB vars gs)) ∧ Below w.heap.size w w' := by
  have hN := Lib.hid hx
  have hz : Hid (gsB vars gs 0 = true) := rfl
  clear hx
  go_enter Try.func21, Try.ntmps21
  go_wp2_with fail
  go_loopw [9] (fun i wr => ∃ k : Nat, k ≤ gs.length ∧ i = .int .i64 k ∧ Hid (gsB vars gs k = true) ∧ Hid (Below w.heap.size w wr)) (fun i _ => gs.length - (intOf i).toNat)
  case atStart => exact ⟨0, Nat.zero_le _, rfl, hz, bb _⟩
  case round =>
    obtain ⟨k, hk, rfl, HD, HB⟩ := hrel
    by_cases hlt : k < gs.length
    · obtain ⟨b, off, rfl, m0, m1, m2⟩ := (hN.out.grow HB.out).at_ k hlt
      have hsu := gsB_succ vars gs k
      rw [HD.out, List.getD_eq_getElem?_getD, List.getElem?_eq_getElem hlt] at hsu
      have hall : Hid (gtB vars k gs[k] = false → circB vars gs = false) := by
        intro h
        unfold circB
        have : gsB vars gs gs.length = false := by
          cases h2 : gsB vars gs gs.length
          · rfl
          · have := gsB_ok.1 h2 k hlt
            rw [h] at this; exact absurd this (by decide)
        rw [this]; rfl
      have hb2 : b < wr.heap.size := World.block_lt_of_cell? _ _ m0
      have hcall := Lib.hid (gateOk_any vars k gs[k] (by omega))
      dsimp only [Option.getD_some] at hsu
      generalize gs[k] = g at *
      obtain ⟨gk, ga, gb⟩ := g
      dsimp only at *
      have HB2 := Lib.hid (bal HB.out (.cells #[.int .i64 gk, .int .i64 ga, .int .i64 gb] 41))
      clear HB HD
      obtain ⟨q, hq⟩ : ∃ q, gtB vars k ⟨gk, ga, gb⟩ = q := ⟨_, rfl⟩
      rw [hq] at hcall hall hsu
      clear hq
      replace hsu := Lib.hid hsu
      go_wp2_with fail
      refine (hcall.out _).mono ?_
      rintro e w1 ⟨rfl, hb1⟩
      have HB3 := Lib.hid (btr HB2.out hb1)
      clear HB2 hb1 m0 m1 m2 hcall
      cases q
      · have hno := Lib.hid (hall.out rfl)
        clear hall
        go_wp2_with fail
        go_ret
        exact ⟨ret_bool hno.out.symm, HB3.out⟩
      · have hyes : Hid (gsB vars gs (k + 1) = true) := by unfold Hid; rw [hsu.out]; rfl
        clear hall
        go_wp2_with fail
        go_roundw
        case rel => exact ⟨k + 1, by omega, by go_num, hyes, HB3⟩
        case measure => simp [intOf]; omega
    · obtain rfl : k = gs.length := by omega
      have hR : Hid (circB vars gs = (inB vars 0 12 && inB gs.length 1 200)) := by unfold Hid circB; rw [HD.out]; rfl
      obtain ⟨q, hq⟩ : ∃ q, inB vars 0 12 = q := ⟨_, rfl⟩
      obtain ⟨q2, hq2⟩ : ∃ q, inB (gs.length : Int) 1 200 = q := ⟨_, rfl⟩
      rw [hq, hq2] at hR
      have hc := Lib.hid (fun W => varsOkG hq W)
      have hc2 := Lib.hid (fun W => withinG hq2 W)
      clear hq hq2 HD
      cases q
      · go_wp2_with fail
        refine (hc.out _).mono ?_
        rintro e w1 ⟨rfl, hb1⟩
        have HB3 := Lib.hid (btr HB.out hb1)
        go_wp2_with fail
        go_ret
        exact ⟨ret_bool hR.out.symm, HB3.out⟩
      · go_wp2_with fail
        refine (hc.out _).mono ?_
        rintro e w1 ⟨rfl, hb1⟩
        have HB3 := Lib.hid (btr HB.out hb1)
        go_wp2_with fail
        refine (hc2.out _).mono ?_
        rintro e w2 ⟨rfl, hb2⟩
        have HB4 := Lib.hid (btr HB3.out hb2)
        go_wp2_with fail
        go_ret
        exact ⟨ret_bool hR.out.symm, HB4.out⟩

/-- Truth values that fill a block. -/
def boolsA (n : Nat) (f : Nat → Bool) : Array Value := ((List.range n).map fun j => Value.bool (f j)).toArray
theorem boolsA_get {n m : Nat} {f : Nat → Bool} (h : m < n) : (boolsA n f)[m]? = some (.bool (f m)) := by simp [boolsA, h]
theorem boolsA_congr {n : Nat} {f g : Nat → Bool} (h : ∀ j, j < n → f j = g j) : boolsA n f = boolsA n g := by
  unfold boolsA
  congr 1
  exact List.map_congr_left fun j hj => by rw [h j (List.mem_range.1 hj)]
theorem boolsA_set (n m : Nat) (f : Nat → Bool) (x : Bool) : (boolsA n f).setIfInBounds m (.bool x) = boolsA n (fun j => if j = m then x else f j) := by
  unfold boolsA
  rw [List.setIfInBounds_toArray]
  congr 1
  apply List.ext_getElem?
  intro j
  rw [List.getElem?_set]
  by_cases hj : j < n
  · by_cases e : m = j
    · subst e; simp [hj]
    · rw [if_neg e]; simp only [List.getElem?_map, List.getElem?_range hj, Option.map_some]; rw [if_neg (fun h => e h.symm)]
  · by_cases e : m = j
    · subst e; simp [hj]
    · rw [if_neg e]; simp [hj]
theorem boolsA_made (n : Nat) : madeCells #[.bool false] n = boolsA n (fun _ => false) := by
  apply Array.ext'
  rw [toList_madeCells_one]
  unfold boolsA
  apply List.ext_getElem?
  intro j
  by_cases h : j < n
  · simp [h]
  · simp [h]
set_option maxRecDepth 100000 in
theorem mk_bools (k : Nat) (hk : k ≤ 1000000) (x : Int) (hx : x = k) (w : World) :
    (Instr.makeSlice 73 (.int .i64 x) (.int .i64 x)).run Try.prog w = .ok (.slice (some ⟨w.heap.size, 0, none⟩) k k) (w.alloc (.cells (boolsA k fun _ => false) 4)) := by
  obtain ⟨i, hi, h1, h2, h3⟩ : ∃ i, Try.prog.info? 4 = some i ∧ i.zero = some (.bool false) ∧ i.size = 1 ∧ i.bytes = 1 := ⟨_, rfl, by kernel_rfl, by kernel_rfl, by kernel_rfl⟩
  subst hx
  have := run_make w 73 4 i (.bool false) Try.underlying73 hi h1 .i64 .i64 (k : Int) (k : Int) (by omega) (by omega) (by rw [h3]; omega) (by omega)
  rw [h2] at this
  rw [← boolsA_made]
  simpa [Value.cells] using this
end Go.Proofs.Ytkhopkonddgicaa

/- Contracts: the values of a circuit. -/
namespace Go.Proofs.Ytkhopkonddgicaa
open Go.RowKit

/-- The values so far. -/
def upG (bits : Nat) (gs : List Gt) (k j : Nat) : Bool := decide (j < k) && gval bits gs j
theorem upG_lt {bits : Nat} {gs : List Gt} {k j : Nat} (h : j < k) : upG bits gs k j = gval bits gs j := by simp [upG, h]
theorem upG_self (bits : Nat) (gs : List Gt) (k : Nat) : upG bits gs k k = false := by simp [upG]
theorem upG_succ (bits : Nat) (gs : List Gt) (k n : Nat) : boolsA n (fun j => if j = k then gval bits gs k else upG bits gs k j) = boolsA n (upG bits gs (k + 1)) := by
  refine boolsA_congr fun j _ => ?_
  unfold upG
  by_cases e : j = k
  · subst e; simp
  · rw [if_neg e]
    by_cases h : j < k
    · simp [h, Nat.lt_succ_of_lt h]
    · simp [h, show ¬ j < k + 1 by omega]
/-- Nothing is stored: the value is false. -/
theorem upG_skip {bits : Nat} {gs : List Gt} {k n : Nat} (h : gval bits gs k = false) : boolsA n (upG bits gs k) = boolsA n (upG bits gs (k + 1)) := by
  refine boolsA_congr fun j _ => ?_
  unfold upG
  by_cases e : j = k
  · subst e; simp [h]
  · by_cases h : j < k
    · simp [h, Nat.lt_succ_of_lt h]
    · simp [h, show ¬ j < k + 1 by omega]
theorem upG_all (bits : Nat) (gs : List Gt) : boolsA gs.length (upG bits gs gs.length) = boolsA gs.length (gval bits gs) := boolsA_congr fun _ hj => upG_lt hj
theorem upG_zero (bits : Nat) (gs : List Gt) (n : Nat) : boolsA n (fun _ => false) = boolsA n (upG bits gs 0) := boolsA_congr fun j _ => by simp [upG]

set_option maxRecDepth 100000 in
set_option maxHeartbeats 16000000 in
theorem gateValues_any {vars : Int} (bits : Nat) (A : Option Addr) (c : Nat) (gs : List Gt) (w : World) (hx : GtAt w A gs) (hg : OkG vars gs) (hl : gs.length ≤ 1000000) (hb : bits < 2 ^ 62) :
    Calls Try.prog 84 #[.slice A gs.length c, .int .i64 bits] w fun e w' => e = .returned (.slice (some ⟨w.heap.size, 0, none⟩) gs.length gs.length) ∧ Sp w w' [Box w.heap.size 4 (boolsA gs.length (gval bits gs))] := by
  have hmk := fun W => mk_bools gs.length hl (gs.length : Int) rfl W
  have S0 := (Sp.start w).alloc_box (boolsA gs.length fun _ => false) 4
  have hS : ∀ W, Sp w W [Box w.heap.size 4 (boolsA gs.length fun _ => false)] → Sp w W [Box w.heap.size 4 (boolsA gs.length (upG bits gs 0))] := fun W h => by rw [← upG_zero]; exact h
  have S1 := Lib.hid (hS _ S0)
  have hN := Lib.hid hx
  replace hg := Lib.hid hg
  clear hx S0 hS
  obtain ⟨M, hM⟩ : ∃ M, boolsA gs.length (fun _ => false) = M := ⟨_, rfl⟩
  rw [hM] at hmk S1
  clear hM
  go_enter Try.func84, Try.ntmps84
  go_wp2_with fail
  go_loopw [13] (fun i wr => ∃ k : Nat, k ≤ gs.length ∧ i = .int .i64 k ∧ Hid (Sp w wr [Box w.heap.size 4 (boolsA gs.length (upG bits gs k))])) (fun i _ => gs.length - (intOf i).toNat)
  case atStart => exact ⟨0, Nat.zero_le _, rfl, S1⟩
  case round =>
    obtain ⟨k, hk, rfl, HS⟩ := hrel
    clear S1 hmk
    by_cases hlt : k < gs.length
    · obtain ⟨b, off, rfl, m0, m1, m2⟩ := (hN.out.grow HS.out.below).at_ k hlt
      have hb2 : b < wr.heap.size := World.block_lt_of_cell? _ _ m0
      have hok := hg.out k hlt
      have hval := hg.out.val bits hlt
      have hcell : ∀ m, m < gs.length → (boolsA gs.length (upG bits gs k))[m]? = some (.bool (upG bits gs k m)) := fun m hm => boolsA_get hm
      have ho64 := hN.out.ok _ (List.getElem_mem hlt)
      generalize gs[k] = g at *
      obtain ⟨gk, ga, gb⟩ := g
      dsimp only at *
      have HS2 := HS.out.alloc_box #[.int .i64 gk, .int .i64 ga, .int .i64 gb] 41
      have v0 := HS2.frozen (i := 1) rfl k
      have hck := HS2.cell (i := 1) rfl (o := k) (hcell k hlt)
      have hput : ∀ x, gval bits gs k = x → Hid (Sp w ((wr.alloc (.cells #[.int .i64 gk, .int .i64 ga, .int .i64 gb] 41)).setCell ⟨w.heap.size, k, none⟩ (.bool x)) [Box w.heap.size 4 (boolsA gs.length (upG bits gs (k + 1)))]) := fun x hx => by
        subst hx
        have := (HS2.store (i := 1) rfl k (.bool (gval bits gs k))).tail
        rw [boolsA_set, upG_succ] at this
        exact this
      have hskip : gval bits gs k = false → Hid (Sp w (wr.alloc (.cells #[.int .i64 gk, .int .i64 ga, .int .i64 gb] 41)) [Box w.heap.size 4 (boolsA gs.length (upG bits gs (k + 1)))]) := fun hx => by
        have := HS2.tail
        rw [upG_skip hx] at this
        exact this
      replace HS2 := Lib.hid HS2
      replace hput := Lib.hid hput
      replace hskip := Lib.hid hskip
      rw [gtB_iff] at hok
      dsimp only at hok
      clear HS
      rcases hok with ⟨rfl, h1, h2, rfl⟩ | ⟨rfl | rfl, rfl, rfl⟩ | ⟨rfl, h1, h2, rfl⟩ | ⟨rfl | rfl, h1, h2, h3, h4⟩
      · have hand := bit_endG bits hb ga h1
        have hv : gval bits gs k = bitG bits ga := hval
        have hw64 : IntKind.i64.wrap (ga - 1) = ga - 1 := IntWalk.i64_in _ (by have := ho64.2.1; unfold I64 at this; dsimp only at this; omega)
        have hS3 := hput.out _ hv
        cases ht : bitG bits ga
        · rw [ht] at hand hS3
          simp only [Bool.false_eq_true, if_false] at hand
          clear hput hskip hval hv hcell HS2 ht ho64
          go_wp2_with fail
          go_roundw
          case rel => exact ⟨k + 1, by omega, by go_num, hS3⟩
          case measure => simp [intOf]; omega
        · rw [ht] at hand hS3
          simp only [if_true] at hand
          clear hput hskip hval hv hcell HS2 ht ho64
          go_wp2_with fail
          go_roundw
          case rel => exact ⟨k + 1, by omega, by go_num, hS3⟩
          case measure => simp [intOf]; omega
      · have hS3 := hput.out true hval
        clear hput hskip hval hcell HS2 ho64
        go_wp2_with fail
        go_roundw
        case rel => exact ⟨k + 1, by omega, by go_num, hS3⟩
        case measure => simp [intOf]; omega
      · have hS3 := hskip.out hval
        clear hput hskip hval hcell HS2 ho64
        go_wp2_with fail
        go_roundw
        case rel => exact ⟨k + 1, by omega, by go_num, hS3⟩
        case measure => simp [intOf]; omega
      · obtain ⟨a, rfl⟩ : ∃ a : Nat, ga = a := ⟨ga.toNat, by omega⟩
        have hak : a < k := by omega
        have hal : (a : Int) < gs.length := by omega
        have hv : gval bits gs k = !gval bits gs a := hval
        have ca := HS2.out.cell (i := 1) rfl (o := a) (hcell a (by omega))
        rw [upG_lt hak] at ca
        have hS3 := hput.out _ hv
        generalize gval bits gs a = x at *
        clear hput hskip hval hv hcell HS2 ho64
        go_wp2_with fail
        go_roundw
        case rel => exact ⟨k + 1, by omega, by go_num, hS3⟩
        case measure => simp [intOf]; omega
      all_goals
        obtain ⟨a, rfl⟩ : ∃ a : Nat, ga = a := ⟨ga.toNat, by omega⟩
        obtain ⟨b', rfl⟩ : ∃ a : Nat, gb = a := ⟨gb.toNat, by omega⟩
        have hak : a < k := by omega
        have hbk : b' < k := by omega
        have hal : (a : Int) < gs.length := by omega
        have hbl : (b' : Int) < gs.length := by omega
        have ca := HS2.out.cell (i := 1) rfl (o := a) (hcell a (by omega))
        have cb := HS2.out.cell (i := 1) rfl (o := b') (hcell b' (by omega))
        rw [upG_lt hak] at ca
        rw [upG_lt hbk] at cb
        have hS3 := hput.out _ hval
        clear hput hskip hval hcell HS2 ho64
        unfold gv at hS3
        simp only [Int.reduceEq, if_false, if_true, Int.toNat_natCast] at hS3
        generalize gval bits gs a = x at *
        generalize gval bits gs b' = y at *
        cases x
        all_goals
          simp only [Bool.false_and, Bool.true_and, Bool.false_or, Bool.true_or] at hS3
          go_wp2_with fail
          go_roundw
          case rel => exact ⟨k + 1, by omega, by go_num, hS3⟩
          case measure => simp [intOf]; omega
    · obtain rfl : k = gs.length := by omega
      have HS2 : Hid (Sp w wr [Box w.heap.size 4 (boolsA gs.length (gval bits gs))]) := by
        have := HS.out
        rw [upG_all] at this
        exact this
      clear HS
      go_wp2_with fail
      go_ret
      exact ⟨rfl, HS2.out⟩

set_option maxHeartbeats 1000000 in
theorem circuitValue_any {vars : Int} (bits : Nat) (A : Option Addr) (c : Nat) (gs : List Gt) (w : World) (hx : GtAt w A gs) (hg : OkG vars gs) (hl : gs.length ≤ 1000000) (hp : 0 < gs.length) (hb : bits < 2 ^ 62) :
    Calls Try.prog 42 #[.slice A gs.length c, .int .i64 bits] w fun e w' => e = .returned (.bool (cval gs bits)) ∧ Below w.heap.size w w' := by
  have hcall := Lib.hid (gateValues_any bits A c gs w hx hg hl hb)
  clear hx hg
  have hw64 : IntKind.i64.wrap ((gs.length : Int) - 1) = ((gs.length - 1 : Nat) : Int) := by rw [IntWalk.i64_in _ (by omega)]; omega
  have hlt : ((gs.length - 1 : Nat) : Int) < gs.length := by omega
  go_enter Try.func42, Try.ntmps42
  go_wp2_with fail
  refine hcall.out.mono ?_
  rintro e w1 ⟨rfl, S⟩
  have c0 : w1.cell? ⟨w.heap.size, gs.length - 1, none⟩ = some (.bool (cval gs bits)) := S.cell (i := 0) rfl (o := gs.length - 1) (boolsA_get (by omega))
  have hB := S.below
  clear S hcall
  obtain ⟨q, hq⟩ : ∃ q, cval gs bits = q := ⟨_, rfl⟩
  rw [hq] at c0
  replace hq := Lib.hid hq
  go_wp2_with fail
  go_ret
  exact ⟨ret_bool hq.out.symm, hB⟩
end Go.Proofs.Ytkhopkonddgicaa

/- Contracts: clauses and Cnfs at bits, in the reference. -/
namespace Go.Proofs.Ytkhopkonddgicaa
open Go.RowKit

theorem cl_next {c : List Int} {k : Nat} (hk : k < c.length) (b : Nat) : clT (c.take (k + 1)) b = (clT (c.take k) b || litT b c[k]) := by
  unfold clT
  rw [List.take_succ_eq_append_getElem hk, List.any_append]
  simp
theorem cl_take {c : List Int} {k b : Nat} (h : clT (c.take k) b = true) : clT c b = true := by
  unfold clT at *
  rw [List.any_eq_true] at *
  obtain ⟨x, hx, h⟩ := h
  exact ⟨x, List.mem_of_mem_take hx, h⟩
theorem md_next {xss : List (List Int)} {j : Nat} (hj : j < xss.length) (b : Nat) : modT (xss.take (j + 1)) b = (modT (xss.take j) b && clT xss[j] b) := by
  unfold modT
  rw [List.take_succ_eq_append_getElem hj, List.all_append]
  simp
theorem md_take {xss : List (List Int)} {j b : Nat} (h : modT (xss.take j) b = false) : modT xss b = false := by
  unfold modT at *
  rw [List.all_eq_false] at *
  obtain ⟨x, hx, h⟩ := h
  exact ⟨x, List.mem_of_mem_take hx, h⟩

/- left out: the seat has no spec.l5True -/

/- left out: the seat has no spec.l5All -/
end Go.Proofs.Ytkhopkonddgicaa

/- Contracts: models that are counted and the least one, in the reference. -/
namespace Go.Proofs.Ytkhopkonddgicaa
open Go.RowKit

def cntP (p : Nat → Bool) (k : Nat) : Nat := ((List.range k).filter p).length
theorem cntP_no {p : Nat → Bool} {k : Nat} (h : p k = false) : cntP p (k + 1) = cntP p k := by simp [cntP, List.range_succ, List.filter_append, h]
theorem cntP_yes {p : Nat → Bool} {k : Nat} (h : p k = true) : cntP p (k + 1) = cntP p k + 1 := by simp [cntP, List.range_succ, List.filter_append, h]
theorem cntP_le (p : Nat → Bool) (k : Nat) : cntP p k ≤ k := Nat.le_trans (List.length_filter_le _ _) (by simp)

/- left out: the seat has no spec.l5Models -/
end Go.Proofs.Ytkhopkonddgicaa

/- Contracts: how many bits make a circuit true, circuits of the same values, the value of a circuit. -/
namespace Go.Proofs.Ytkhopkonddgicaa
open Go.RowKit

/-- What is known of a valid circuit. -/
theorem circ_parts {n : Nat} {gs : List Gt} (h : circB n gs = true) : n ≤ 12 ∧ 0 < gs.length ∧ gs.length ≤ 200 ∧ OkG n gs := by
  unfold circB at h
  rw [Bool.and_eq_true, Bool.and_eq_true, inB_iff, inB_iff, gsB_ok] at h
  exact ⟨by omega, by omega, by omega, h.1.1⟩
theorem circ_of {n : Nat} {gs : List Gt} (hn : n ≤ 12) (h0 : 0 < gs.length) (h1 : gs.length ≤ 200) (h : OkG n gs) : circB n gs = true := by
  unfold circB
  rw [gsB_ok.2 h, inB_iff.2 ⟨by omega, by omega⟩, inB_iff.2 ⟨by omega, by omega⟩]; rfl
theorem valueG {n : Nat} {gs : List Gt} (h : circB n gs = true) (A : Option Addr) (c b : Nat) (hb : b < 4096) (w : World) (hx : GtAt w A gs) :
    Calls Try.prog 42 #[.slice A gs.length c, .int .i64 b] w fun e w' => e = .returned (.bool (cval gs b)) ∧ Below w.heap.size w w' := by
  obtain ⟨_, h0, h1, h2⟩ := circ_parts h
  exact circuitValue_any b A c gs w hx h2 (by omega) h0 (Nat.lt_trans hb (by decide))

set_option maxRecDepth 100000 in
set_option maxHeartbeats 4000000 in
theorem countTrue_any (n : Nat) (A : Option Addr) (c : Nat) (gs : List Gt) (w : World) (hg : circB n gs = true) (hx : GtAt w A gs) :
    Calls Try.prog 11 #[.int .i64 n, .slice A gs.length c] w fun e w' => e = .returned (.tuple #[.int .i64 (cntP (cval gs) (2 ^ n)), .bool true]) ∧ Below w.heap.size w w' := by
  have hp0 := circ_parts hg
  have hn12 : n ≤ 12 := hp0.1
  obtain ⟨hsh, hp⟩ := pow12 hn12
  have hcall0 := isCircuit_any n A c gs w hx (by omega)
  rw [hg] at hcall0
  replace hcall0 := Lib.hid hcall0
  have hcall := Lib.hid (fun b (hb : b < 4096) W (h : Below w.heap.size w W) => valueG hg A c b hb W (hx.grow h))
  have hcl := Lib.hid (cntP_le (cval gs))
  have hz : Hid ((cntP (cval gs) 0) = 0) := rfl
  have hno := Lib.hid (fun k => cntP_no (p := cval gs) (k := k))
  have hyes := Lib.hid (fun k => cntP_yes (p := cval gs) (k := k))
  generalize cval gs = P at *
  obtain ⟨N, hN⟩ : ∃ N, 2 ^ n = N := ⟨_, rfl⟩
  rw [hN] at hsh hp ⊢
  have hn0 : (0 : Int) ≤ n := by omega
  clear hx hN hp0 hg
  go_enter Try.func11, Try.ntmps11
  go_wp2_with fail
  refine hcall0.out.mono ?_
  rintro e w1 ⟨rfl, hb1⟩
  replace hb1 := Lib.hid hb1
  clear hcall0
  go_wp2_with fail
  try rw [hsh]
  go_loopw [6, 14] (fun vc i wr => ∃ (k x : Nat), k ≤ N ∧ i = .int .i64 k ∧ vc = .int .i64 x ∧ Hid (cntP P k = x) ∧ Hid (Below w.heap.size w wr)) (fun _ i _ => N - (intOf i).toNat)
  case atStart => exact ⟨0, 0, Nat.zero_le _, rfl, rfl, hz, hb1⟩
  case round =>
    obtain ⟨k, x, hk, rfl, rfl, hxx, HB⟩ := hrel
    have hxl : x ≤ 4096 := by have := hcl.out k; rw [hxx.out] at this; omega
    by_cases hlt : k < N
    · have hc := Lib.hid (hcall.out k (by omega) wr HB.out)
      have h1 := Lib.hid (hno.out k)
      have h2 := Lib.hid (hyes.out k)
      obtain ⟨q, hq⟩ : ∃ q, P k = q := ⟨_, rfl⟩
      rw [hq] at hc h1 h2
      clear hq
      go_wp2_with fail
      refine hc.out.mono ?_
      rintro e w2 ⟨rfl, hb2⟩
      have HB2 := Lib.hid (btr HB.out hb2)
      clear HB hb2 hc
      cases q
      · have h3 : Hid (cntP P (k + 1) = x) := by unfold Hid; rw [h1.out rfl]; exact hxx.out
        clear h1 h2 hxx
        go_wp2_with fail
        go_roundw
        case rel => exact ⟨k + 1, x, by omega, by go_num, rfl, h3, HB2⟩
        case measure => simp [intOf]; omega
      · have h3 : Hid (cntP P (k + 1) = x + 1) := by unfold Hid; rw [h2.out rfl, hxx.out]
        have hxi : IntKind.i64.wrap ((x : Int) + 1) = ((x + 1 : Nat) : Int) := by rw [IntWalk.i64_in _ (by omega)]; omega
        clear h1 h2 hxx
        go_wp2_with fail
        go_roundw
        case rel => exact ⟨k + 1, x + 1, by omega, by go_num, by first | rfl | go_num, h3, HB2⟩
        case measure => simp [intOf]; omega
    · obtain rfl : k = N := by omega
      clear hno hyes hcl hcall
      go_wp2_with fail
      go_ret2
      exact ⟨by rw [hxx.out]; try rfl, HB.out⟩

set_option maxRecDepth 100000 in
set_option maxHeartbeats 4000000 in
theorem firstDiff_any (n : Nat) (A A' : Option Addr) (c c' : Nat) (gs hs : List Gt) (w : World) (hg : circB n gs = true) (hh : circB n hs = true) (hx : GtAt w A gs) (hy : GtAt w A' hs) (hsame : ∀ b, b < 2 ^ n → cval gs b = cval hs b) :
    Calls Try.prog 49 #[.int .i64 n, .slice A gs.length c, .slice A' hs.length c'] w fun e w' => e = .returned (.int .i64 (-1)) ∧ Below w.heap.size w w' := by
  have hp0 := circ_parts hg
  have hn12 : n ≤ 12 := hp0.1
  obtain ⟨hsh, hp⟩ := pow12 hn12
  have hcall := Lib.hid (fun b (hb : b < 4096) W (h : Below w.heap.size w W) => valueG hg A c b hb W (hx.grow h))
  have hcall2 := Lib.hid (fun b (hb : b < 4096) W (h : Below w.heap.size w W) => valueG hh A' c' b hb W (hy.grow h))
  replace hsame := Lib.hid hsame
  generalize cval gs = P at *
  generalize cval hs = Q at *
  generalize 2 ^ n = N at *
  have hn0 : (0 : Int) ≤ n := by omega
  have hB0 : Hid (Below w.heap.size w w) := Lib.hid (bb w)
  clear hx hy hp0 hg hh
  go_enter Try.func49, Try.ntmps49
  go_wp2_with fail
  try rw [hsh]
  go_loopw [10] (fun i wr => ∃ k : Nat, k ≤ N ∧ i = .int .i64 k ∧ Hid (Below w.heap.size w wr)) (fun i _ => N - (intOf i).toNat)
  case atStart => exact ⟨0, Nat.zero_le _, rfl, hB0⟩
  case round =>
    obtain ⟨k, hk, rfl, HB⟩ := hrel
    by_cases hlt : k < N
    · have hc := Lib.hid (hcall.out k (by omega) wr HB.out)
      have hc2 := Lib.hid (fun W h => hcall2.out k (by omega) W h)
      rw [hsame.out k hlt] at hc
      obtain ⟨q, hq⟩ : ∃ q, Q k = q := ⟨_, rfl⟩
      rw [hq] at hc hc2
      clear hq
      go_wp2_with fail
      refine hc.out.mono ?_
      rintro e w2 ⟨rfl, hb2⟩
      have HB2 := Lib.hid (btr HB.out hb2)
      clear HB hb2 hc
      go_wp2_with fail
      refine (hc2.out _ HB2.out).mono ?_
      rintro e w3 ⟨rfl, hb3⟩
      have HB3 := Lib.hid (btr HB2.out hb3)
      clear HB2 hb3 hc2
      cases q
      all_goals
        go_wp2_with fail
        go_roundw
        case rel => exact ⟨k + 1, by omega, by go_num, HB3⟩
        case measure => simp [intOf]; omega
    · obtain rfl : k = N := by omega
      go_wp2_with fail
      go_ret
      exact ⟨rfl, HB.out⟩

set_option maxHeartbeats 2000000 in
theorem sameValues_any (n : Nat) (A A' : Option Addr) (c c' : Nat) (gs hs : List Gt) (w : World) (hg : circB n gs = true) (hh : circB n hs = true) (hx : GtAt w A gs) (hy : GtAt w A' hs) (hsame : ∀ b, b < 2 ^ n → cval gs b = cval hs b) :
    Calls Try.prog 16 #[.int .i64 n, .slice A gs.length c, .slice A' hs.length c'] w fun e w' => e = .returned (.tuple #[.bool true, .bool true]) ∧ Below w.heap.size w w' := by
  have h1 := isCircuit_any n A c gs w hx (by have := circ_parts hg; omega)
  have h2 := fun W (h : Below w.heap.size w W) => isCircuit_any n A' c' hs W (hy.grow h) (by have := circ_parts hh; omega)
  have h3 := Lib.hid (fun W (h : Below w.heap.size w W) => firstDiff_any n A A' c c' gs hs W hg hh (hx.grow h) (hy.grow h) hsame)
  rw [hg] at h1
  rw [hh] at h2
  replace h1 := Lib.hid h1
  replace h2 := Lib.hid h2
  clear hx hy hsame hg hh
  go_enter Try.func16, Try.ntmps16
  go_wp2_with fail
  refine h1.out.mono ?_
  rintro e w1 ⟨rfl, hb1⟩
  go_wp2_with fail
  refine (h2.out _ hb1).mono ?_
  rintro e w2 ⟨rfl, hb2⟩
  have hB2 := btr hb1 hb2
  go_wp2_with fail
  refine (h3.out _ hB2).mono ?_
  rintro e w3 ⟨rfl, hb3⟩
  have hB3 := btr hB2 hb3
  go_wp2_with fail
  go_ret2
  exact ⟨rfl, hB3⟩

set_option maxRecDepth 100000 in
set_option maxHeartbeats 1000000 in
theorem bitsOkG (n : Nat) (hn : n ≤ 12) (m : Nat) (hm : m < 2 ^ n) (w : World) : Calls Try.prog 45 #[.int .i64 n, .int .i64 m] w fun e w' => e = .returned (.bool true) ∧ Below w.heap.size w w' := by
  obtain ⟨hsh, hp⟩ := pow12 hn
  have hN1 : 1 ≤ 2 ^ n := Nat.one_le_two_pow
  have hin : inB (m : Int) 0 (((2 ^ n : Nat) : Int) - 1) = true := inB_iff.2 ⟨by omega, by omega⟩
  have hn0 : (0 : Int) ≤ n := by omega
  generalize 2 ^ n = N at *
  have hw1 : IntKind.i64.wrap ((N : Int) - 1) = (N : Int) - 1 := IntWalk.i64_in _ (by omega)
  go_enter Try.func45, Try.ntmps45
  go_wp2_with fail
  try rw [hsh]
  try rw [hw1]
  refine (withinG hin _).mono ?_
  rintro e w1 ⟨rfl, hb1⟩
  go_wp2_with fail
  go_ret
  exact ⟨rfl, hb1⟩

set_option maxHeartbeats 2000000 in
theorem circuitValueM_any (n b : Nat) (A : Option Addr) (c : Nat) (gs : List Gt) (w : World) (hg : circB n gs = true) (hx : GtAt w A gs) (hb : b < 2 ^ n) :
    Calls Try.prog 13 #[.int .i64 n, .slice A gs.length c, .int .i64 b] w fun e w' => e = .returned (.tuple #[.bool (cval gs b), .bool true]) ∧ Below w.heap.size w w' := by
  have hp0 := circ_parts hg
  obtain ⟨-, hp⟩ := pow12 hp0.1
  have h1 := isCircuit_any n A c gs w hx (by omega)
  rw [hg] at h1
  replace h1 := Lib.hid h1
  have h2 := Lib.hid (fun W => bitsOkG n hp0.1 b hb W)
  have h3 := Lib.hid (fun W (h : Below w.heap.size w W) => valueG hg A c b (by omega) W (hx.grow h))
  generalize cval gs b = q at *
  clear hx hg hp0 hb hp
  go_enter Try.func13, Try.ntmps13
  go_wp2_with fail
  refine h1.out.mono ?_
  rintro e w1 ⟨rfl, hb1⟩
  go_wp2_with fail
  refine (h2.out _).mono ?_
  rintro e w2 ⟨rfl, hb2⟩
  have hB2 := btr hb1 hb2
  go_wp2_with fail
  refine (h3.out _ hB2).mono ?_
  rintro e w3 ⟨rfl, hb3⟩
  have hB3 := btr hB2 hb3
  go_wp2_with fail
  go_ret2
  exact ⟨rfl, hB3⟩
end Go.Proofs.Ytkhopkonddgicaa

/- Contract: the gates that a gate asks. -/
namespace Go.Proofs.Ytkhopkonddgicaa
open Go.RowKit

/-- Numbers as they lie in memory. -/
def natI (l : List Nat) : List Int := l.map (fun (k : Nat) => (k : Int))
theorem natI_len (l : List Nat) : (natI l).length = l.length := by simp [natI]
set_option maxRecDepth 100000 in
set_option maxHeartbeats 8000000 in
theorem inputs_any (g : Gt) (ha : 0 ≤ g.a ∧ g.a ≤ 1000000) (hb : 0 ≤ g.b ∧ g.b ≤ 1000000) (w : World) :
    Calls Try.prog 96 #[gtV g] w fun e w' => ∃ A c, e = .returned (.slice A (insG g).length c) ∧ IntsAt w' A (natI (insG g)) ∧ Below w.heap.size w w' := by
  obtain ⟨k, a', b'⟩ := g
  dsimp only at ha hb
  obtain ⟨a, rfl⟩ : ∃ a : Nat, a' = a := ⟨a'.toNat, by omega⟩
  obtain ⟨b, rfl⟩ : ∃ b : Nat, b' = b := ⟨b'.toNat, by omega⟩
  have hB0 := Lib.hid (bal (bb w) (.cells #[.int .i64 k, .int .i64 (a : Int), .int .i64 (b : Int)] 41))
  by_cases h4 : k = 4
  · subst h4
    have hM : insG ⟨4, (a : Int), (b : Int)⟩ = [a] := by simp [insG]
    rw [hM]
    have S1 := ((Sp.start w).alloc_box #[.int .i64 4, .int .i64 (a : Int), .int .i64 (b : Int)] 41).alloc_box #[.int .i64 (a : Int)] 3
    simp only [World.size_alloc] at S1
    have k0 := S1.cell (i := 0) rfl (o := 0) rfl
    have hB1 := S1.below
    clear S1 hM
    go_enter Try.func96, Try.ntmps96
    go_wp2_with fail
    go_ret
    refine ⟨_, _, rfl, ⟨fun j hj => ⟨_, 0, rfl, ?_⟩, fun c hc => ?_⟩, hB1⟩
    · obtain rfl : j = 0 := by simp [natI] at hj; omega
      exact k0
    · simp [natI] at hc; subst hc; unfold I64; omega
  by_cases h5 : k = 5 ∨ k = 6
  · have hM : insG ⟨k, (a : Int), (b : Int)⟩ = [a, b] := by simp [insG, h4, h5]
    rw [hM]
    have S1 := ((Sp.start w).alloc_box #[.int .i64 k, .int .i64 (a : Int), .int .i64 (b : Int)] 41).alloc_box #[.int .i64 (a : Int), .int .i64 (b : Int)] 3
    simp only [World.size_alloc] at S1
    have k0 := S1.cell (i := 0) rfl (o := 0) rfl
    have k1 := S1.cell (i := 0) rfl (o := 1) rfl
    have hB1 := S1.below
    clear S1 hM h4
    rcases h5 with rfl | rfl
    all_goals
      go_enter Try.func96, Try.ntmps96
      go_wp2_with fail
      go_ret
      refine ⟨_, _, rfl, ⟨fun j hj => ⟨_, 0, rfl, ?_⟩, fun c hc => ?_⟩, hB1⟩
      · have : j = 0 ∨ j = 1 := by simp [natI] at hj; omega
        rcases this with rfl | rfl
        · exact k0
        · exact k1
      · simp [natI] at hc; rcases hc with rfl | rfl <;> unfold I64 <;> omega
  · have hM : insG ⟨k, (a : Int), (b : Int)⟩ = [] := by simp [insG, h4, h5]
    have h5' : k ≠ 5 := fun e => h5 (.inl e)
    have h6' : k ≠ 6 := fun e => h5 (.inr e)
    rw [hM]
    clear hM h5
    go_enter Try.func96, Try.ntmps96
    go_wp2_with fail
    go_ret
    exact ⟨_, _, rfl, .nil _ _, hB0.out⟩
end Go.Proofs.Ytkhopkonddgicaa

/- Plain facts: which gates are needed, as the program finds them. No program in sight. -/
namespace Go.Proofs.Ytkhopkonddgicaa

/-- One gate is looked at: where it is needed, so are those that it asks. -/
def needStep (gs : List Gt) (s : (Nat → Bool) × List Nat) (i : Nat) : (Nat → Bool) × List Nat :=
  if s.1 i then (fun j => s.1 j || decide (j ∈ insG (gs.getD i ⟨0, 0, 0⟩)), s.2 ++ [i]) else s
def needF (gs : List Gt) (pre : List Nat) : (Nat → Bool) × List Nat := pre.foldl (needStep gs) (fun j => decide (j = gs.length - 1), [])
theorem needF_snoc (gs : List Gt) (pre : List Nat) (i : Nat) : needF gs (pre ++ [i]) = needStep gs (needF gs pre) i := by simp [needF]
theorem needF_len (gs : List Gt) (pre : List Nat) : (needF gs pre).2.length ≤ pre.length := by
  induction pre using snoc_ind with
  | h0 => simp [needF]
  | h1 l a ih =>
    rw [needF_snoc]
    unfold needStep
    split
    · simp; omega
    · simp; omega
/-- The numbers from the last one down. -/
def downN : Nat → List Nat
  | 0 => []
  | n + 1 => n :: downN n
def needL (gs : List Gt) : List Nat := (needF gs (downN gs.length)).2.reverse
structure NInv (gs : List Gt) (m : Nat) (s : (Nat → Bool) × List Nat) : Prop where
  asc : s.2.Pairwise (· > ·)
  mem : ∀ i, i ∈ s.2 ↔ m ≤ i ∧ s.1 i = true
  lt : ∀ j, s.1 j = true → j < gs.length
  ins : ∀ i ∈ s.2, ∀ k ∈ insG (gs.getD i ⟨0, 0, 0⟩), s.1 k = true
  top : s.1 (gs.length - 1) = true
  head : m < gs.length → s.2.head? = some (gs.length - 1)
theorem NInv.step {vars : Int} {gs : List Gt} {m : Nat} {s : (Nat → Bool) × List Nat} (hg : OkG vars gs) (hm : m < gs.length) (h : NInv gs (m + 1) s) : NInv gs m (needStep gs s m) := by
  have hd : gs.getD m ⟨0, 0, 0⟩ = gs[m] := by rw [List.getD_eq_getElem?_getD, List.getElem?_eq_getElem hm]; rfl
  have hlt : ∀ k ∈ insG (gs.getD m ⟨0, 0, 0⟩), k < m := by rw [hd]; exact ins_lt (hg m hm)
  unfold needStep
  cases hs : s.1 m
  · rw [if_neg (by simp)]
    refine ⟨h.asc, fun i => ?_, h.lt, h.ins, h.top, fun h2 => ?_⟩
    · rw [h.mem]
      constructor
      · rintro ⟨h1, h2⟩; exact ⟨by omega, h2⟩
      · rintro ⟨h1, h2⟩
        refine ⟨?_, h2⟩
        rcases Nat.lt_or_ge m i with h3 | h3
        · exact h3
        · obtain rfl : i = m := by omega
          rw [hs] at h2; exact absurd h2 (by decide)
    · rcases Nat.lt_or_ge (m + 1) gs.length with h3 | h3
      · exact h.head h3
      · obtain e : gs.length - 1 = m := by omega
        have := h.top
        rw [e, hs] at this; exact absurd this (by decide)
  · rw [if_pos rfl]
    refine ⟨?_, fun i => ?_, fun j hj => ?_, fun i hi k hk => ?_, ?_, fun h2 => ?_⟩
    · rw [List.pairwise_append]
      refine ⟨h.asc, List.pairwise_singleton _ _, fun a ha b hb => ?_⟩
      rw [List.mem_singleton] at hb
      have := ((h.mem a).1 ha).1
      omega
    · simp only [List.mem_append, List.mem_singleton, Bool.or_eq_true, decide_eq_true_eq]
      rw [h.mem]
      constructor
      · rintro (⟨h1, h2⟩ | rfl)
        · exact ⟨by omega, .inl h2⟩
        · exact ⟨Nat.le_refl _, .inl hs⟩
      · rintro ⟨h1, h2 | h2⟩
        · rcases Nat.lt_or_ge m i with h3 | h3
          · exact .inl ⟨h3, h2⟩
          · exact .inr (by omega)
        · have := hlt i h2; omega
    · simp only [Bool.or_eq_true, decide_eq_true_eq] at hj
      rcases hj with hj | hj
      · exact h.lt j hj
      · have := hlt j hj; omega
    · simp only [Bool.or_eq_true, decide_eq_true_eq]
      rcases List.mem_append.1 hi with hi | hi
      · exact .inl (h.ins i hi k hk)
      · rw [List.mem_singleton] at hi
        subst hi
        exact .inr hk
    · simp only [Bool.or_eq_true]; exact .inl h.top
    · rcases Nat.lt_or_ge (m + 1) gs.length with h3 | h3
      · have := h.head h3
        rw [List.head?_append, this]; rfl
      · obtain e : gs.length - 1 = m := by omega
        have hnil : s.2 = [] := by
          rw [List.eq_nil_iff_forall_not_mem]
          intro i hi
          have h5 := (h.mem i).1 hi
          have h6 := h.lt i h5.2
          omega
        rw [hnil, e]; rfl
theorem ninv_all {vars : Int} {gs : List Gt} (hg : OkG vars gs) : ∀ m s, m ≤ gs.length → NInv gs m s → NInv gs 0 ((downN m).foldl (needStep gs) s)
  | 0, _, _, h => h
  | m + 1, s, hm, h => ninv_all hg m (needStep gs s m) (by omega) (h.step hg (by omega))
theorem need_inv {vars : Int} {gs : List Gt} (hg : OkG vars gs) (hp : 0 < gs.length) : NInv gs 0 (needF gs (downN gs.length)) := by
  refine ninv_all hg gs.length _ (Nat.le_refl _) ⟨List.Pairwise.nil, fun i => ?_, fun j hj => ?_, fun i hi => ?_, by simp, fun h => absurd h (Nat.lt_irrefl _)⟩
  · simp only [List.not_mem_nil, decide_eq_true_eq, false_iff]; omega
  · simp only [decide_eq_true_eq] at hj; omega
  · exact absurd hi (by simp)
theorem need_needs {vars : Int} {gs : List Gt} (hg : OkG vars gs) (hp : 0 < gs.length) : Needs gs (needL gs) ∧ (needL gs).getLast? = some (gs.length - 1) := by
  have h := need_inv hg hp
  unfold needL
  refine ⟨⟨?_, fun i hi => ?_, fun i hi k hk => ?_⟩, ?_⟩
  · rw [List.pairwise_reverse]; exact h.asc
  · rw [List.mem_reverse] at hi
    exact h.lt i ((h.mem i).1 hi).2
  · rw [List.mem_reverse] at hi ⊢
    exact (h.mem k).2 ⟨Nat.zero_le _, h.ins i hi k hk⟩
  · rw [List.getLast?_reverse]; exact h.head hp
end Go.Proofs.Ytkhopkonddgicaa

/- Contract: slices.Backward over gates, as an iterator. -/
namespace Go.Proofs.Ytkhopkonddgicaa
open Go.RowKit Go.Shelf

attribute [local go_sem] Oper.semAt_some

/-- What has come when c rounds are over. -/
def comeF (n : Nat) : Nat → List (Fin n)
  | 0 => []
  | c + 1 => if h : c < n then comeF n c ++ [⟨n - 1 - c, by omega⟩] else comeF n c
theorem comeF_succ {n c : Nat} (h : c < n) : comeF n (c + 1) = comeF n c ++ [⟨n - 1 - c, by omega⟩] := by rw [comeF, dif_pos h]
theorem comeF_len {n : Nat} : ∀ c, c ≤ n → (comeF n c).length = c
  | 0, _ => rfl
  | c + 1, h => by rw [comeF_succ (by omega), List.length_append, comeF_len c (by omega)]; rfl
theorem comeF_down {n : Nat} : ∀ c, c ≤ n → (comeF n c).map Fin.val ++ downN (n - c) = downN n
  | 0, _ => rfl
  | c + 1, h => by
    rw [comeF_succ (by omega), List.map_append, List.append_assoc]
    have h1 := comeF_down (n := n) c (by omega)
    rw [show n - c = (n - (c + 1)) + 1 by omega, downN] at h1
    rw [← h1]
    simp only [List.map_cons, List.map_nil, List.singleton_append]
    rw [show n - 1 - c = n - (c + 1) by omega]
theorem comeF_all (n : Nat) : (comeF n n).map Fin.val = downN n := by
  have := comeF_down (n := n) n (Nat.le_refl _)
  rwa [Nat.sub_self, downN, List.append_nil] at this

/-- What a round must keep: what lay below, and the iterator's own box. -/
def KeepB (n₀ Bs : Nat) (W W' : World) : Prop := Below n₀ W W' ∧ W'.heap[Bs]? = W.heap[Bs]?
theorem keepB_t {n₀ Bs : Nat} {A B C : World} (h1 : KeepB n₀ Bs A B) (h2 : KeepB n₀ Bs B C) : KeepB n₀ Bs A C := ⟨h1.1.trans h2.1, h2.2.trans h1.2⟩
theorem KeepB.box {n₀ Bs : Nat} {W W' : World} (h : KeepB n₀ Bs W W') {v : Value} (hc : W.cell? ⟨Bs, 0, none⟩ = some v) : W'.cell? ⟨Bs, 0, none⟩ = some v :=
  (World.cell?_of_block (a := ⟨Bs, 0, none⟩) h.2).trans hc
/-- What the iterator hands on: a number and its gate. -/
def gtEncs (gs : List Gt) (i : Fin gs.length) : Array Value := #[.int .i64 (i.val : Int), gtV gs[i.val]]

set_option maxRecDepth 100000 in
set_option maxHeartbeats 4000000 in
theorem backward1_in (F : Fence) (n : Nat) (hF : F.fn 115) (hro : F.round = none) (hn : 1 ≤ n) (l Bs n₀ : Nat) (gs : List Gt) (A : Option Addr) (cap : Nat) (hl : gs.length ≤ 1000000)
    (hlow : ∀ a, A = some a → a.block < n₀) (J Jx : List (Fin gs.length) → World → Prop)
    (hY : ∀ pre x W, J pre W → pre.length < gs.length → YieldAt F (n - 1) Try.prog l (gtEncs gs x) W fun e W' =>
      (e = .returned (.bool true) ∧ J (pre ++ [x]) W' ∧ KeepB n₀ Bs W W') ∨ (e = .returned (.bool false) ∧ Jx (pre ++ [x]) W'))
    (W : World) (hBs : W.cell? ⟨Bs, 0, none⟩ = some (.slice A gs.length cap)) (hc : GtAt W A gs) (h0 : J [] W) :
    CallsIn F n Try.prog 115 #[.func (.yield l) #[] #[], .pointer (some ⟨Bs, 0, none⟩)] W fun e W' => (∃ v, e = .returned v) ∧
      ((∃ ys, ys = comeF gs.length gs.length ∧ J ys W') ∨ (∃ pre, True ∧ Jx pre W')) := by
  have hw0 : IntKind.i64.wrap ((gs.length : Int) - 1) = (gs.length : Int) - 1 := IntWalk.i64_in _ (by omega)
  refine callsIn_of_wp Try.func115 rfl hF ?_ hro
  simp only [Try.ntmps115, List.size_toArray, List.length_cons, List.length_nil, Nat.reduceAdd, Nat.reduceSub, Array.replicate_succ, Array.replicate_zero, List.push_toArray, List.append_toArray, List.nil_append, List.cons_append]
  gi_wp2
  gi_loopw [3] (fun i wr => ∃ (c : Nat) (z : Int), c ≤ gs.length ∧ i = .int .i64 z ∧ z = (gs.length : Int) - 1 - c ∧ J (comeF gs.length c) wr ∧ Below n₀ W wr ∧ wr.cell? ⟨Bs, 0, none⟩ = some (.slice A gs.length cap))
    (fun i _ => (intOf i + 1).toNat)
  case atStart => exact ⟨0, _, Nat.zero_le _, rfl, by omega, h0, Below.refl _ _, hBs⟩
  case round =>
    obtain ⟨c, z, hc2, rfl, hz, hJs, hnx, kb⟩ := hrel
    by_cases hlt : c < gs.length
    · obtain ⟨m, hm⟩ : ∃ m, gs.length - 1 - c = m := ⟨_, rfl⟩
      have hml : m < gs.length := by omega
      have hsucc : comeF gs.length (c + 1) = comeF gs.length c ++ [⟨m, hml⟩] := by subst hm; exact comeF_succ hlt
      obtain ⟨fn, tmps, assign, body, hy, hR⟩ := hY _ ⟨m, hml⟩ wr hJs (by rw [comeF_len c hc2]; exact hlt)
      obtain rfl : z = (m : Int) := by omega
      have hz0 : (0 : Int) ≤ (m : Int) := by omega
      have hzl : (m : Int) < gs.length := by omega
      have hw1 : IntKind.i64.wrap ((m : Int) - 1) = (m : Int) - 1 := IntWalk.i64_in _ (by omega)
      obtain ⟨b, off, rfl, m0, m1, m2⟩ := hc.at_ m hml
      have hb := hlow _ rfl
      have k0 := (hnx.cell (p := ⟨b, off + m * 3, none⟩) hb).trans m0
      have k1 := (hnx.cell (p := ⟨b, off + m * 3 + 1, none⟩) hb).trans m1
      have k2 := (hnx.cell (p := ⟨b, off + m * 3 + 2, none⟩) hb).trans m2
      unfold gtEncs at hy
      dsimp only at hy
      replace hsucc := Lib.hid hsucc
      replace hz := Lib.hid hz
      replace hm := Lib.hid hm
      clear m0 m1 m2
      generalize hgm : gs[m] = g at *
      obtain ⟨gk, ga, gb⟩ := g
      dsimp only at *
      clear hgm
      gi_wp2
      refine hR.mono ?_
      rintro e W3 (⟨rfl, hJ3, hk3⟩ | ⟨rfl, hJx3⟩)
      · gi_wp2
        go_roundw
        case rel => exact ⟨c + 1, _, by omega, rfl, by have := hz.out; omega, by rw [hsucc.out]; exact hJ3, hnx.trans hk3.1, hk3.box kb⟩
        case measure => simp [intOf]
      · gi_wp2
        refine bodyPost_ret (results_none rfl _ _ _) rfl ?_
        exact ⟨⟨_, rfl⟩, .inr ⟨_, trivial, hJx3⟩⟩
    · obtain rfl : c = gs.length := by omega
      have hz0 : ¬ (0 : Int) ≤ z := by omega
      gi_wp2
      go_end0
      first | exact ⟨⟨_, rfl⟩, .inl ⟨_, rfl, hJs⟩⟩ | exact ⟨⟨_, rfl⟩, .inl hJs⟩ | (refine ⟨⟨_, rfl⟩, ?_⟩; simp; exact .inl hJs)

set_option maxHeartbeats 1000000 in
/-- slices.Backward: the slice is boxed; the function value captures the box. -/
theorem backward_in (F : Fence) (n : Nat) (hF : F.fn 95) (hro : F.round = none) (a : Option Addr) (len cap : Nat) (w : World) :
    CallsIn F n Try.prog 95 #[.slice a len cap] w fun e w' => e = .returned (.func (.func 115) #[] #[.pointer (some ⟨w.heap.size, 0, none⟩)]) ∧ w' = w.alloc (.cells #[.slice a len cap] 28) := by
  refine callsIn_of_wp Try.func95 rfl hF ?_ hro
  simp only [Try.ntmps95, List.size_toArray, List.length_cons, List.length_nil, Nat.reduceAdd, Nat.reduceSub, Array.replicate_succ, Array.replicate_zero, List.push_toArray, List.append_toArray, List.nil_append, List.cons_append]
  gi_wp2
  go_ret
  exact ⟨rfl, rfl⟩

/-- What it hands back is an iterator: all gates, from the last one down. -/
theorem backward_stops (F : Fence) (n : Nat) (hF : F.fn 115) (hro : F.round = none) (hn : 1 ≤ n) (Bs n₀ : Nat) (gs : List Gt) (A : Option Addr) (cap : Nat) (hl : gs.length ≤ 1000000) (w : World)
    (hBs : Bs < w.heap.size) (hlow : ∀ a, A = some a → a.block < n₀) (hc : w.cell? ⟨Bs, 0, none⟩ = some (.slice A gs.length cap)) (hI : GtAt w A gs) :
    SeqStopsK F n Try.prog 115 #[.pointer (some ⟨Bs, 0, none⟩)] (gtEncs gs) (KeepB n₀ Bs) (fun ys => ys = comeF gs.length gs.length) (fun _ => True) gs.length w := fun l J Jx W hW _ _ hY h0 =>
  backward1_in F n hF hro hn l Bs n₀ gs A cap hl hlow J Jx hY W ((hW.cell (p := ⟨Bs, 0, none⟩) hBs).trans hc) (hI.grow hW) h0
end Go.Proofs.Ytkhopkonddgicaa

/- Memory in parts, within a range over a function: the parts abide the turn of a block that is no cells. -/
namespace Go.Proofs.Ytkhopkonddgicaa
open Go.RowKit

/-- The blocks of a part are cells. -/
def Cellish (q : Asn) : Prop := ∀ w F, q.p w F → ∀ b ∈ F, ∀ o, w.heap[b]? = some o → o.isCells = true
theorem cellish_box (b : Nat) (t : TypeId) (cs : Array Value) : Cellish (Box b t cs) := by
  rintro w F ⟨rfl, h⟩ b' hb o ho
  obtain rfl : b' = b := by simpa using hb
  rw [h] at ho; cases ho; rfl
theorem cellish_own (e : TypeId) (size : Nat) (v : Value) (n : Nat) (xs : List Value) : Cellish (Own e size v n xs) := by
  rintro w F ⟨rfl, -, ⟨rfl, -⟩ | ⟨g, cap, cur, rfl, -, hh, -⟩⟩ b hb o ho
  · simp [Value.ownBlock] at hb
  · obtain rfl : b = g := by simpa [Value.ownBlock] using hb
    rw [hh] at ho; cases ho; rfl
theorem sep_cellish {w : World} : ∀ {ps : List Asn} {F : List Nat}, sep ps w F → (∀ q ∈ ps, Cellish q) → ∀ b ∈ F, ∀ o, w.heap[b]? = some o → o.isCells = true
  | [], _, h, _ => by subst h; simp
  | q :: ps, _, h, hq => by
    obtain ⟨F1, F2, rfl, _, h1, h2⟩ := h
    intro b hb o ho
    rcases List.mem_append.1 hb with hb | hb
    · exact hq q (by simp) w F1 h1 b hb o ho
    · exact sep_cellish h2 (fun x hx => hq x (by simp [hx])) b hb o ho
theorem Sp.turn {w0 A B : World} {ps : List Asn} {row : Option Nat} (h : Sp w0 A ps) (hq : ∀ q ∈ ps, Cellish q) (hg : A.grownBy B row) (hr : ∀ r, row = some r → w0.heap.size ≤ r ∧ ∃ o : Obj, A.heap[r]? = some o ∧ o.isCells = false) : Sp w0 B ps := by
  obtain ⟨h1, F, h2, h3⟩ := h
  refine ⟨h1.grown hg h1.size (fun k e => by have := (hr k e).1; omega), F, sep_keep h2 fun b hb => hg.block b (sep_lt h2 b hb) (fun e => ?_), h3⟩
  obtain ⟨-, o, ho, hc⟩ := hr b e.symm
  have := sep_cellish h2 hq b hb o ho
  rw [hc] at this; exact absurd this (by decide)
/-- Parts that follow what has come are an invariant of a range over a function. -/
theorem sp_ownFrom {β : Type} {w0 : World} (B : Nat) (hB : w0.heap.size ≤ B) (I : β → World → Prop) (hI : ∀ s W, I s W → ∃ ps, Sp w0 W ps ∧ (∀ q ∈ ps, Cellish q) ∧ ∀ W', Sp w0 W' ps → I s W') : OwnFrom B I := by
  intro s W W' row hs hg hr
  obtain ⟨ps, h1, h2, h3⟩ := hI s W hs
  exact h3 W' (h1.turn h2 hg fun r e => ⟨Nat.le_trans hB (hr r e).1, (hr r e).2⟩)
theorem keepB_b {n₀ Bs : Nat} {w : World} (hn : n₀ ≤ w.heap.size) (hb : Bs < w.heap.size) (W : World) (l : Nat) (o o' : Obj) (hl : w.heap.size ≤ l) (h : W.heap[l]? = some o) (h1 : o.isCells = false) (h2 : o.isWalk = false) : KeepB n₀ Bs W (W.putObj l o') :=
  ⟨belowK_b hn W l o o' hl h h1 h2, World.putObj_heap_other (by omega)⟩
end Go.Proofs.Ytkhopkonddgicaa

/- Contracts: the least model, satisfiability and implied clauses, in the reference. -/
namespace Go.Proofs.Ytkhopkonddgicaa
open Go.RowKit

theorem first_at {p : Nat → Bool} {k N : Nat} (hk : k < N) (h0 : (List.range k).any p = false) (h1 : p k = true) : idxP p (List.range N) = (k : Int) := by
  unfold idxP
  have ha : (List.range N).any p = true := List.any_eq_true.2 ⟨k, List.mem_range.2 hk, h1⟩
  rw [if_pos ha]
  have hl : k < (List.range N).length := by simpa using hk
  have : (List.range N).findIdx p = k := (List.findIdx_eq hl).2 ⟨by simpa using h1, fun j hj => by
    rw [List.any_eq_false] at h0
    have := h0 j (List.mem_range.2 hj)
    simpa using this⟩
  rw [this]
theorem first_no {p : Nat → Bool} {N : Nat} (h0 : (List.range N).any p = false) : idxP p (List.range N) = -1 := by
  unfold idxP
  rw [if_neg (by rw [h0]; decide)]
theorem rany_next {p : Nat → Bool} {k : Nat} : (List.range (k + 1)).any p = ((List.range k).any p || p k) := by
  simp [List.range_succ, List.any_append]
theorem rany_yes {p : Nat → Bool} {k N : Nat} (hk : k < N) (h : p k = true) : (List.range N).any p = true := List.any_eq_true.2 ⟨k, List.mem_range.2 hk, h⟩

/- left out: the seat has no spec.l5First -/

/- left out: the seat has no spec.l5Sat -/

/- left out: the seat has no spec.l5Implies -/
end Go.Proofs.Ytkhopkonddgicaa
