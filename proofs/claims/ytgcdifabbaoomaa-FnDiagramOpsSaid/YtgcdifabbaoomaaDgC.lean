/- Contracts: values of diagrams. -/
import Derived.Test.YtgcdifabbaoomaaDgB
import Derived.Lib.RabinKarpLaws
namespace Go.Proofs.Ytgcdifabbaoomaa
open Go.RowKit

/-- Numbers of nodes lie ahead of the nodes; variables are from 1 on. -/
def WkN (ns : List Nd) : Prop := ∀ i (h : i < ns.length), 1 ≤ ns[i].v ∧ (0 ≤ ns[i].lo ∧ ns[i].lo ≤ i + 1) ∧ (0 ≤ ns[i].hi ∧ ns[i].hi ≤ i + 1)
theorem OkN.wk {vars : Int} {ns : List Nd} (h : OkN vars ns) : WkN ns := fun i hi => by
  obtain ⟨h1, h2, h3, _⟩ := (ndB_get hi).1 (h i hi)
  exact ⟨h1.1, h2, h3⟩
/-- A bit that is shifted to the end. -/
theorem bit_end (b : Nat) (hb : b < 2 ^ 62) (v : Int) (hv : 1 ≤ v) : bits .and .i64 ((b : Int) / 2 ^ min (v.toNat - 1) 64) 1 = if bitN b v then 1 else 0 := by
  have e0 : (b : Int) / 2 ^ min (v.toNat - 1) 64 = ((b / 2 ^ min (v.toNat - 1) 64 : Nat) : Int) := by
    rw [Int.natCast_ediv, Int.natCast_pow]; rfl
  rw [e0, and_one _ (Nat.lt_of_le_of_lt (Nat.div_le_self _ _) (Nat.lt_trans hb (by decide)))]
  have h64 : ∀ s, 64 ≤ s → b.testBit s = false := fun s hs => Nat.testBit_lt_two_pow (Nat.lt_of_lt_of_le hb (Nat.pow_le_pow_right (by decide) (by omega)))
  have e : bitN b v = b.testBit (min (v.toNat - 1) 64) := by
    unfold bitN
    rw [show (v - 1).toNat = v.toNat - 1 by omega]
    rcases Nat.lt_or_ge (v.toNat - 1) 64 with h | h
    · rw [Nat.min_eq_left (by omega)]
    · rw [h64 _ h, h64 _ (by omega)]
  rw [e, Nat.testBit_eq_decide_div_mod_eq]
  rcases Nat.mod_two_eq_zero_or_one (b / 2 ^ min (v.toNat - 1) 64) with h | h
  · rw [h]; simp
  · rw [h]; simp
theorem valD_low {κ : Int} (h : κ < 2) (ns : List Nd) (b : Nat) : valD κ ns b = decide (κ = 1) := by unfold valD pv; rw [if_pos h]

set_option maxRecDepth 100000 in
set_option maxHeartbeats 4000000 in
theorem value_any (r κ0 : Int) (b : Nat) (A : Option Addr) (c : Nat) (ns : List Nd) (w : World) (hx : NdAt w A ns) (hl : ns.length ≤ 1000000) (hw : WkN ns) (h0 : 0 ≤ κ0) (h1 : κ0 ≤ ns.length + 1) (hb : b < 2 ^ 62) :
    Calls Try.prog 78 #[dgV r (.slice A ns.length c), .int .i64 κ0, .int .i64 b] w fun e w' => e = .returned (.bool (valD κ0 ns b)) ∧ Below w.heap.size w w' := by
  have S0 := Lib.hid ((Sp.start w).alloc_box #[.int .i64 r, .slice A ns.length c] 26)
  have hN := Lib.hid hx
  clear hx
  go_enter Try.func78, Try.ntmps78
  go_wp2_with fail
  go_loopw [1] (fun k wr => ∃ κ : Int, 0 ≤ κ ∧ κ ≤ ns.length + 1 ∧ k = .int .i64 κ ∧ Hid (valD κ ns b = valD κ0 ns b) ∧ Hid (Sp w wr [Box w.heap.size 26 #[.int .i64 r, .slice A ns.length c]])) (fun k _ => (intOf k).toNat)
  case atStart => exact ⟨κ0, h0, h1, rfl, rfl, S0⟩
  case round =>
    obtain ⟨κ, hk0, hk1, rfl, HD, HS⟩ := hrel
    clear S0
    by_cases h2 : (2 : Int) ≤ κ
    · obtain ⟨m, hκm⟩ : ∃ m : Nat, κ = (m : Int) + 2 := ⟨(κ - 2).toNat, by omega⟩
      have hm : m < ns.length := by omega
      have hsub : IntKind.i64.wrap (κ - 2) = (m : Int) := by rw [IntWalk.i64_in _ (by omega)]; omega
      obtain ⟨g, off, e, m0, m1, m2⟩ := (hN.out.grow HS.out.below).at_ m hm
      have hgl : g < wr.heap.size := World.block_lt_of_cell? _ _ m0
      obtain ⟨hv, hlo, hhi⟩ := hw m hm
      obtain ⟨ov, _, _⟩ := hN.out.ok _ (List.getElem_mem hm)
      have c1 := HS.out.cell (i := 0) rfl (o := 1) rfl
      have hkv := Lib.hid (vals_at hm b)
      have hand := bit_end b hb ns[m].v hv
      rw [← hκm] at hkv
      unfold kid at hkv
      generalize ns[m] = n at *
      obtain ⟨v, lo, hi⟩ := n
      dsimp only at *
      have hw64 : IntKind.i64.wrap (v - 1) = v - 1 := IntWalk.i64_in _ (by unfold I64 at ov; omega)
      have hB := (bal (bb wr) (.cells #[.int .i64 v, .int .i64 lo, .int .i64 hi] 67))
      have HS2 := Lib.hid (HS.out.grow hB)
      clear HS hB
      have hkl : lo ≤ (m : Int) + 1 := hlo.2
      have hkh : hi ≤ (m : Int) + 1 := hhi.2
      cases ht : bitN b v
      · rw [ht] at hand
        simp only [Bool.false_eq_true, if_false] at hand
        have hk2 : Hid (valD lo ns b = valD κ0 ns b) := by
          unfold Hid
          rw [← HD.out, hkv.out (by rw [ht]; exact hkl), ht]; rfl
        clear hkv HD
        replace hκm := Lib.hid hκm
        go_wp2_with fail
        go_roundw
        case rel => exact ⟨lo, hlo.1, by omega, rfl, hk2, HS2⟩
        case measure => have := hκm.out; simp [intOf]; omega
      · rw [ht] at hand
        simp only [if_true] at hand
        have hk2 : Hid (valD hi ns b = valD κ0 ns b) := by
          unfold Hid
          rw [← HD.out, hkv.out (by rw [ht]; exact hkh), ht]; rfl
        clear hkv HD
        replace hκm := Lib.hid hκm
        go_wp2_with fail
        go_roundw
        case rel => exact ⟨hi, hhi.1, by omega, rfl, hk2, HS2⟩
        case measure => have := hκm.out; simp [intOf]; omega
    · have hk : Hid ((κ == 1) = valD κ0 ns b) := by
        unfold Hid
        rw [← HD.out, valD_low (by omega)]; rfl
      go_wp2_with fail
      go_ret
      exact ⟨ret_bool hk.out, HS.out.below⟩

set_option maxHeartbeats 1000000 in
theorem valueAt_any (r : Int) (b : Nat) (A : Option Addr) (c : Nat) (ns : List Nd) (w : World) (hx : NdAt w A ns) (hl : ns.length ≤ 1000000) (hw : WkN ns) (h0 : 0 ≤ r) (h1 : r ≤ ns.length + 1) (hb : b < 2 ^ 62) :
    Calls Try.prog 41 #[dgV r (.slice A ns.length c), .int .i64 b] w fun e w' => e = .returned (.bool (valD r ns b)) ∧ Below w.heap.size w w' := by
  have hB := bal (bb w) (.cells #[.int .i64 r, .slice A ns.length c] 26)
  have hN := hx.grow hB
  have hcall := Lib.hid (value_any r r b A c ns _ hN hl hw h0 h1 hb)
  clear hN hx
  go_enter Try.func41, Try.ntmps41
  go_wp2_with fail
  refine hcall.out.mono ?_
  rintro e w1 ⟨rfl, hb1⟩
  have hB2 := btr hB hb1
  clear hB hb1 hcall
  go_wp2_with fail
  go_ret
  exact ⟨rfl, hB2⟩

set_option maxRecDepth 100000 in
set_option maxHeartbeats 4000000 in
theorem specValue_any (r : Int) (b : Nat) (A : Option Addr) (c : Nat) (ns : List Nd) (w : World) (hx : NdAt w A ns) (hl : ns.length ≤ 1000000) (hw : WkN ns) (h0 : 0 ≤ r) (h1 : r ≤ ns.length + 1) (hb : b < 2 ^ 62) :
    Calls Try.prog 80 #[dgV r (.slice A ns.length c), .int .i64 b] w fun e w' => e = .returned (.bool (valD r ns b)) ∧ Below w.heap.size w w' := by
  have S0 := Lib.hid ((Sp.start w).alloc_box #[.int .i64 r, .slice A ns.length c] 26)
  have hN := Lib.hid hx
  clear hx
  go_enter Try.func80, Try.ntmps80
  go_wp2_with fail
  go_loopw [5] (fun k wr => ∃ κ : Int, 0 ≤ κ ∧ κ ≤ ns.length + 1 ∧ k = .int .i64 κ ∧ Hid (valD κ ns b = valD r ns b) ∧ Hid (Sp w wr [Box w.heap.size 26 #[.int .i64 r, .slice A ns.length c]])) (fun k _ => (intOf k).toNat)
  case atStart => exact ⟨r, h0, h1, rfl, rfl, S0⟩
  case round =>
    obtain ⟨κ, hk0, hk1, rfl, HD, HS⟩ := hrel
    clear S0
    by_cases h2 : (1 : Int) < κ
    · obtain ⟨m, hκm⟩ : ∃ m : Nat, κ = (m : Int) + 2 := ⟨(κ - 2).toNat, by omega⟩
      have hm : m < ns.length := by omega
      have hsub : IntKind.i64.wrap (κ - 2) = (m : Int) := by rw [IntWalk.i64_in _ (by omega)]; omega
      obtain ⟨g, off, e, m0, m1, m2⟩ := (hN.out.grow HS.out.below).at_ m hm
      have hgl : g < wr.heap.size := World.block_lt_of_cell? _ _ m0
      obtain ⟨hv, hlo, hhi⟩ := hw m hm
      obtain ⟨ov, _, _⟩ := hN.out.ok _ (List.getElem_mem hm)
      have c1 := HS.out.cell (i := 0) rfl (o := 1) rfl
      have hkv := Lib.hid (vals_at hm b)
      have hand := bit_end b hb ns[m].v hv
      rw [← hκm] at hkv
      unfold kid at hkv
      generalize ns[m] = n at *
      obtain ⟨v, lo, hi⟩ := n
      dsimp only at *
      have hw64 : IntKind.i64.wrap (v - 1) = v - 1 := IntWalk.i64_in _ (by unfold I64 at ov; omega)
      have hB := (bal (bb wr) (.cells #[.int .i64 v, .int .i64 lo, .int .i64 hi] 67))
      have HS2 := Lib.hid (HS.out.grow hB)
      clear HS hB
      have hkl : lo ≤ (m : Int) + 1 := hlo.2
      have hkh : hi ≤ (m : Int) + 1 := hhi.2
      cases ht : bitN b v
      · rw [ht] at hand
        simp only [Bool.false_eq_true, if_false] at hand
        have hk2 : Hid (valD lo ns b = valD r ns b) := by
          unfold Hid
          rw [← HD.out, hkv.out (by rw [ht]; exact hkl), ht]; rfl
        clear hkv HD
        replace hκm := Lib.hid hκm
        go_wp2_with fail
        go_roundw
        case rel => exact ⟨lo, hlo.1, by omega, rfl, hk2, HS2⟩
        case measure => have := hκm.out; simp [intOf]; omega
      · rw [ht] at hand
        simp only [if_true] at hand
        have hk2 : Hid (valD hi ns b = valD r ns b) := by
          unfold Hid
          rw [← HD.out, hkv.out (by rw [ht]; exact hkh), ht]; rfl
        clear hkv HD
        replace hκm := Lib.hid hκm
        go_wp2_with fail
        go_roundw
        case rel => exact ⟨hi, hhi.1, by omega, rfl, hk2, HS2⟩
        case measure => have := hκm.out; simp [intOf]; omega
    · have hk : Hid ((κ == 1) = valD r ns b) := by
        unfold Hid
        rw [← HD.out, valD_low (by omega)]; rfl
      go_wp2_with fail
      go_ret
      exact ⟨ret_bool hk.out, HS.out.below⟩
end Go.Proofs.Ytgcdifabbaoomaa
