/- Contracts: truth of clauses and of Cnfs at bits, in the program. -/
import Derived.Test.YtcdgpekefiplnaaTrA
import Derived.Test.YtcdgpekefiplnaaClC
import Derived.Test.YtcdgpekefiplnaaHTail
import Derived.Test.YtcdgpekefiplnaaHTailB
namespace Go.Proofs.Ytcdgpekefiplnaa
open Go.RowKit

/-- A literal that can be told at bits. -/
def LitS (l : Int) : Prop := l ≠ 0 ∧ -1000 ≤ l ∧ l ≤ 1000
theorem LitS.i64 {l : Int} (h : LitS l) : I64 l := by unfold LitS at h; unfold I64; omega
theorem absV_lit {l : Int} (h : LitS l) : absV l = (l.natAbs : Int) := by
  unfold LitS at h
  unfold absV
  split
  · rw [negV_small (by unfold I64; omega) (by omega)]; omega
  · omega
/-- A bit that is shifted to the end. -/
theorem bit_at (b : Nat) (hb : b < 2 ^ 62) (m : Nat) : bits .and .i64 ((b : Int) / 2 ^ min m 64) 1 = if b.testBit m then 1 else 0 := by
  have e0 : (b : Int) / 2 ^ min m 64 = ((b / 2 ^ min m 64 : Nat) : Int) := by
    rw [Int.natCast_ediv, Int.natCast_pow]; rfl
  rw [e0, and_one _ (Nat.lt_of_le_of_lt (Nat.div_le_self _ _) (Nat.lt_trans hb (by decide)))]
  have h64 : ∀ s, 64 ≤ s → b.testBit s = false := fun s hs => Nat.testBit_lt_two_pow (Nat.lt_of_lt_of_le hb (Nat.pow_le_pow_right (by decide) (by omega)))
  have e : b.testBit m = b.testBit (min m 64) := by
    rcases Nat.lt_or_ge m 64 with h | h
    · rw [Nat.min_eq_left (by omega)]
    · rw [h64 _ h, h64 _ (by omega)]
  rw [e, Nat.testBit_eq_decide_div_mod_eq]
  rcases Nat.mod_two_eq_zero_or_one (b / 2 ^ min m 64) with h | h
  · rw [h]; simp
  · rw [h]; simp

set_option maxRecDepth 100000 in
set_option maxHeartbeats 4000000 in
theorem holds1_any (l : Int) (hl : LitS l) (b g : Nat) (hb : b < 2 ^ 62) (w : World) (k0 : w.cell? ⟨g, 0, none⟩ = some (.int .i64 b)) :
    Calls Try.prog 77 #[.int .i64 l, .pointer (some ⟨g, 0, none⟩)] w fun e w' => e = .returned (.bool (litT b l)) ∧ Below w.heap.size w w' := by
  obtain ⟨m, hm⟩ : ∃ m, l.natAbs = m + 1 := ⟨l.natAbs - 1, by unfold LitS at hl; omega⟩
  have ha := fun W => abs_at hl.i64 (absV_lit hl) W
  have hand := bit_at b hb m
  have hR : Hid (litT b l = (b.testBit (l.natAbs - 1) == decide (0 < l))) := rfl
  rw [hm, show m + 1 - 1 = m by omega] at hR
  rw [hm, show ((m + 1 : Nat) : Int) = (m : Int) + 1 by omega] at ha
  have hw1 : IntKind.i64.wrap ((m : Int) + 1 - 1) = (m : Int) := by rw [IntWalk.i64_in _ (by unfold LitS at hl; omega)]; omega
  have hw2 : IntKind.i64.wrap (m : Int) = (m : Int) := by rw [IntWalk.i64_in _ (by unfold LitS at hl; omega)]
  have hm2 : m ≤ 1000 := by unfold LitS at hl; omega
  generalize b.testBit m = q at *
  clear hm hl
  cases hp : decide (0 < l)
  all_goals
    rw [hp] at hR
    cases q
  all_goals
    simp only [if_true, if_false, Bool.false_eq_true] at hand
    go_enter Try.func77, Try.ntmps77
    go_wp2_with fail
    refine wp_region_held_lit (S := (fun w' => w'.cell? ⟨g, 0, none⟩ = some (.int .i64 b))) 11 [false, false, false, false, false, false, false, false, false, false, false] (by kernel_rfl) (by kernel_rfl) (by kernel_rfl) ?_ ?_
    · exact k0
    intro hS
    (refine wpAnyH_take (i := 0) (v := ?_) rfl (by kernel_rfl) (by kernel_rfl) (by kernel_rfl) (fun _ _ _ h => h) (Or.inl ⟨by rfl, ?_⟩) (by assumption) ?_; rotate_left; (focus (intro w hSw; (try dsimp only at hSw); go_simp; (try with_reducible rfl); done)); (try simp only [put_rules]))
    (refine wpAnyH_take (i := 1) (v := ?_) rfl (by kernel_rfl) (by kernel_rfl) (by kernel_rfl) (fun _ _ _ h => h) (Or.inl ⟨by rfl, ?_⟩) (by assumption) ?_; rotate_left; (focus (intro w hSw; (try dsimp only at hSw); go_simp; (try with_reducible rfl); done)); (try simp only [put_rules]))
    (refine wpAnyH_take (i := 7) (v := ?_) rfl (by kernel_rfl) (by kernel_rfl) (by kernel_rfl) (fun _ _ _ h => h) (Or.inl ⟨by rfl, ?_⟩) (by assumption) ?_; rotate_left; (focus (intro w hSw; (try dsimp only at hSw); go_simp; (try with_reducible rfl); done)); (try simp only [put_rules]))
    (refine wpAnyH_take (i := 8) (v := ?_) rfl (by kernel_rfl) (by kernel_rfl) (by kernel_rfl) (fun _ _ _ h => h) (Or.inl ⟨by rfl, ?_⟩) (by assumption) ?_; rotate_left; (focus (intro w hSw; (try dsimp only at hSw); go_simp; (try with_reducible rfl); done)); (try simp only [put_rules]))
    (refine wpAnyH_ready (rs := [2]) (by kernel_rfl) (by simp) ?_; refine AllReadyH.cons rfl (fun K hK => ?_) AllReadyH.nil)
    go_simp
    go_at_call 65
    refine (ha _).mono ?_
    rintro e w1 ⟨rfl, hb1⟩
    have hB1 := btr (bdr (bb w)) hb1
    have k1 := ((bcell hB1).1 g 0 (World.block_lt_of_cell? _ _ k0)).trans k0
    go_wp2_with fail
    refine hK.out _ _ k1 (fun hS2 => ?_)
    clear hK hS
    (try simp only [put_rules])
    (refine wpAnyH_take (i := 3) (v := ?_) rfl (by kernel_rfl) (by kernel_rfl) (by kernel_rfl) (fun _ _ _ h => h) (Or.inl ⟨by rfl, ?_⟩) (by assumption) ?_; rotate_left; (focus (intro w hSw; (try dsimp only at hSw); go_simp; (try with_reducible rfl); done)); (try simp only [put_rules]))
    (refine wpAnyH_take (i := 4) (v := ?_) rfl (by kernel_rfl) (by kernel_rfl) (by kernel_rfl) (fun _ _ _ h => h) (Or.inl ⟨by rfl, ?_⟩) (by assumption) ?_; rotate_left; (focus (intro w hSw; (try dsimp only at hSw); go_simp; (try with_reducible rfl); done)); (try simp only [put_rules]))
    (refine wpAnyH_take (i := 5) (v := ?_) rfl (by kernel_rfl) (by kernel_rfl) (by kernel_rfl) (fun _ _ _ h => h) (Or.inl ⟨by rfl, ?_⟩) (by assumption) ?_; rotate_left; (focus (intro w hSw; (try dsimp only at hSw); go_simp; (try with_reducible rfl); done)); (try simp only [put_rules]))
    (refine wpAnyH_take (i := 6) (v := ?_) rfl (by kernel_rfl) (by kernel_rfl) (by kernel_rfl) (fun _ _ _ h => h) (Or.inl ⟨by rfl, ?_⟩) (by assumption) ?_; rotate_left; (focus (intro w hSw; (try dsimp only at hSw); go_simp; (try with_reducible rfl); done)); (try simp only [put_rules]))
    (refine wpAnyH_take (i := 9) (v := ?_) rfl (by kernel_rfl) (by kernel_rfl) (by kernel_rfl) (fun _ _ _ h => h) (Or.inl ⟨by rfl, ?_⟩) (by assumption) ?_; rotate_left; (focus (intro w hSw; (try dsimp only at hSw); go_simp; (try with_reducible rfl); done)); (try simp only [put_rules]))
    (refine wpAnyH_take (i := 10) (v := ?_) rfl (by kernel_rfl) (by kernel_rfl) (by kernel_rfl) (fun _ _ _ h => h) (Or.inl ⟨by rfl, ?_⟩) (by assumption) ?_; rotate_left; (focus (intro w hSw; (try dsimp only at hSw); go_simp; (try with_reducible rfl); done)); (try simp only [put_rules]))
    (refine wpAnyH_done (by kernel_rfl) ?_ _)
    go_wp2_with fail
    go_ret
    exact ⟨ret_bool hR.out.symm, hB1⟩

set_option maxRecDepth 100000 in
theorem holds_any (c : List Int) (hc : ∀ l ∈ c, LitS l) (hl : c.length ≤ 1000000) (A : Option Addr) (cap b : Nat) (hb : b < 2 ^ 62) (w : World) (hx : IntsAt w A c) :
    Calls Try.prog 74 #[.slice A c.length cap, .int .i64 b] w fun e w' => e = .returned (.bool (clT c b)) ∧ Below w.heap.size w w' := by
  have hB := bal (bb w) (.cells #[.int .i64 b] 3)
  have k0 : (w.alloc (.cells #[.int .i64 b] 3)).cell? ⟨w.heap.size, 0, none⟩ = some (.int .i64 b) := cell_of_row _ _ _ _ _ _ (heap_alloc_new w _)
  have eg : Enter1 77 := enters_of Try.func77 (by kernel_rfl) rfl
  have hf : FnI LitS (w.alloc (.cells #[.int .i64 b] 3)) 77 #[.pointer (some ⟨w.heap.size, 0, none⟩)] (litT b) := by
    intro x W hx hbl
    exact holds1_any x hx b w.heap.size hb W (((bcell hbl).1 w.heap.size 0 (by simp)).trans k0)
  have hcall := Lib.hid (containsI_any eg c A cap _ (hx.grow hB) hl hc hf)
  rw [show c.any (litT b) = clT c b from rfl] at hcall
  clear hx k0 eg hf
  go_enter Try.func74, Try.ntmps74
  go_wp2_with fail
  refine hcall.out.mono ?_
  rintro e w1 ⟨rfl, hb1⟩
  have hB2 := btr hB hb1
  clear hcall hb1 hB
  go_wp2_with fail
  go_ret
  exact ⟨rfl, hB2⟩

/-- A model: all clauses are true. -/
def modT (xss : List (List Int)) (b : Nat) : Bool := xss.all fun c => clT c b
def ClS (c : List Int) : Prop := (∀ l ∈ c, LitS l) ∧ c.length ≤ 1000
set_option maxRecDepth 100000 in
theorem isModel1_any (c : List Int) (hc : ClS c) (A : Option Addr) (cap b g : Nat) (hb : b < 2 ^ 62) (w : World) (hx : IntsAt w A c) (k0 : w.cell? ⟨g, 0, none⟩ = some (.int .i64 b)) :
    Calls Try.prog 73 #[.slice A c.length cap, .pointer (some ⟨g, 0, none⟩)] w fun e w' => e = .returned (.bool (!(clT c b))) ∧ Below w.heap.size w w' := by
  have hcall := Lib.hid (holds_any c hc.1 (by have := hc.2; omega) A cap b hb w hx)
  clear hx
  go_enter Try.func73, Try.ntmps73
  go_wp2_with fail
  refine hcall.out.mono ?_
  rintro e w1 ⟨rfl, hb1⟩
  clear hcall
  go_wp2_with fail
  go_ret
  exact ⟨rfl, hb1⟩

set_option maxRecDepth 100000 in
theorem isModel_any (xss : List (List Int)) (hc : ∀ c ∈ xss, ClS c) (hl : xss.length ≤ 1000000) (A : Option Addr) (cap b : Nat) (hb : b < 2 ^ 62) (w : World) (hx : ClsAt w A xss) :
    Calls Try.prog 68 #[.slice A xss.length cap, .int .i64 b] w fun e w' => e = .returned (.bool (modT xss b)) ∧ Below w.heap.size w w' := by
  have hB := bal (bb w) (.cells #[.int .i64 b] 3)
  have k0 : (w.alloc (.cells #[.int .i64 b] 3)).cell? ⟨w.heap.size, 0, none⟩ = some (.int .i64 b) := cell_of_row _ _ _ _ _ _ (heap_alloc_new w _)
  have eg : Enter1 73 := enters_of Try.func73 (by kernel_rfl) rfl
  have hf : FnS ClS (w.alloc (.cells #[.int .i64 b] 3)) 73 #[.pointer (some ⟨w.heap.size, 0, none⟩)] (fun c => !(clT c b)) := by
    intro x B cp W hI hx hbl
    exact isModel1_any x hx B cp b w.heap.size hb W hI (((bcell hbl).1 w.heap.size 0 (by simp)).trans k0)
  have hcall := Lib.hid (containsS_any eg xss A cap _ (hx.grow hB) hl hc hf)
  have hR : Hid (modT xss b = !(xss.any fun c => !(clT c b))) := by
    unfold Hid modT
    rw [List.all_eq_not_any_not]
  generalize (xss.any fun c => !(clT c b)) = q at *
  clear hx k0 eg hf
  go_enter Try.func68, Try.ntmps68
  go_wp2_with fail
  refine hcall.out.mono ?_
  rintro e w1 ⟨rfl, hb1⟩
  have hB2 := btr hB hb1
  clear hcall hb1 hB
  go_wp2_with fail
  go_ret
  exact ⟨ret_bool hR.out.symm, hB2⟩
end Go.Proofs.Ytcdgpekefiplnaa
