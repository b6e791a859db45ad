/- Contracts: the place of a clause in a list, in the reference. -/
import Derived.Test.YtebpknekaljgnaaClO
import Derived.Test.YtebpknekaljgnaaCnfA
namespace Go.Proofs.Ytebpknekaljgnaa
open Go.RowKit

/-- The search by halves. -/
def bsB (L : List (List Int)) (c : List Int) : Nat → Nat → Nat → Nat
  | 0, lo, _ => lo
  | f + 1, lo, hi => if lo < hi then (if beforeB (L[(lo + hi) / 2]?.getD []) c then bsB L c f ((lo + hi) / 2 + 1) hi else bsB L c f lo ((lo + hi) / 2)) else lo
def placeB (L : List (List Int)) (c : List Int) : Nat := bsB L c (L.length + 1) 0 L.length
theorem bsB_le (L : List (List Int)) (c : List Int) : ∀ (f lo hi : Nat), lo ≤ hi → bsB L c f lo hi ≤ hi
  | 0, lo, hi, h => h
  | f + 1, lo, hi, h => by
    rw [bsB]
    split
    · split
      · exact bsB_le L c f _ _ (by omega)
      · exact Nat.le_trans (bsB_le L c f _ _ (by omega)) (by omega)
    · exact h
theorem placeB_le (L : List (List Int)) (c : List Int) : placeB L c ≤ L.length := bsB_le _ _ _ _ _ (Nat.zero_le _)
theorem bsB_up {L : List (List Int)} {c : List Int} {f lo hi : Nat} (h : lo < hi) (hb : beforeB (L[(lo + hi) / 2]?.getD []) c = true) : bsB L c (f + 1) lo hi = bsB L c f ((lo + hi) / 2 + 1) hi := by rw [bsB, if_pos h, hb]; rfl
theorem bsB_down {L : List (List Int)} {c : List Int} {f lo hi : Nat} (h : lo < hi) (hb : beforeB (L[(lo + hi) / 2]?.getD []) c = false) : bsB L c (f + 1) lo hi = bsB L c f lo ((lo + hi) / 2) := by rw [bsB, if_pos h, hb]; rfl
theorem bsB_end {L : List (List Int)} {c : List Int} {f lo hi : Nat} (h : ¬ lo < hi) : bsB L c f lo hi = lo := by
  cases f with
  | zero => rfl
  | succ f => rw [bsB, if_neg h]

theorem l2Before_at {v u : Value} {xs ys : List Int} {F G : List Nat} {w : World} {q : Bool} (hx : Ty.int.row false w v xs F) (hy : Ty.int.row false w u ys G) (mx : Mild xs) (my : Mild ys) (h : beforeB xs ys = q) :
    Calls Try.prog 64 #[v, u] w fun e w' => e = .returned (.bool q) ∧ Below w.heap.size w w' := h ▸ l2Before_any v u xs ys F G w hx hy mx my

set_option maxHeartbeats 2000000 in
theorem l2Place_any (v u : Value) (L : List (List Int)) (c : List Int) (F G : List Nat) (w : World) (hx : (Ty.slice Ty.int).row false w v L F) (hy : Ty.int.row false w u c G) (mL : ∀ x ∈ L, Mild x) (mc : Mild c) (hl : L.length ≤ 1000000000) :
    Calls Try.prog 50 #[v, u] w fun e w' => e = .returned (.int .i64 (placeB L c)) ∧ Below w.heap.size w w' := by
  obtain ⟨a, cap, rfl, hx1, hx2, hx3⟩ := row_slices hx
  obtain ⟨ua, uc, rfl, _, _⟩ := Ty.row_len hy
  go_enter Try.func50, Try.ntmps50
  go_wp2_with fail
  go_loopw [5, 6] (fun i j wr => ∃ lo hi f : Nat, lo ≤ hi ∧ hi ≤ L.length ∧ hi - lo < f ∧ i = .int .i64 lo ∧ j = .int .i64 hi ∧ Hid (bsB L c f lo hi = placeB L c) ∧ Below w.heap.size w wr) (fun i j _ => (intOf j).toNat - (intOf i).toNat)
  case atStart => exact ⟨0, L.length, L.length + 1, Nat.zero_le _, Nat.le_refl _, by omega, rfl, rfl, rfl, bb _⟩
  case round =>
    obtain ⟨lo, hi, f, h1, h2, h3, rfl, rfl, HR, hB⟩ := hrel
    by_cases hlt : lo < hi
    · rcases hx3 with ⟨rfl, rfl⟩ | ⟨hxn, b, off, rfl, _, hxc⟩
      · simp at h2; omega
      obtain ⟨f, rfl⟩ : ∃ f', f = f' + 1 := ⟨f - 1, by omega⟩
      have hm : (lo + hi) / 2 < L.length := by omega
      obtain ⟨x, Fk, hc, hr, _⟩ := hxc ((lo + hi) / 2) hm
      have hr' := Ty.row_below hr hB (Ty.row_lt hr)
      have hy' := Ty.row_below hy hB (Ty.row_lt hy)
      obtain ⟨xa, xc, rfl, _, _⟩ := Ty.row_len hr
      have k0 := (hc.keep (hB.block b hc.lt)).1
      have hmx := mL _ (List.getElem_mem hm)
      have hi1 : (((lo : Int) + (hi : Int)) / 2).toNat = (lo + hi) / 2 := by omega
      have hi0 : (0 : Int) ≤ ((lo : Int) + (hi : Int)) / 2 := by omega
      have hi2 : ((lo : Int) + (hi : Int)) / 2 < (L.length : Int) := by omega
      have hi3 : ((lo : Int) + (hi : Int)) / 2 = (((lo + hi) / 2 : Nat) : Int) := by omega
      have he : L[(lo + hi) / 2]?.getD [] = L[(lo + hi) / 2] := by rw [List.getElem?_eq_getElem hm]; rfl
      have hm1 : lo ≤ (lo + hi) / 2 := by omega
      have hm2 : (lo + hi) / 2 < hi := by omega
      cases hq : beforeB L[(lo + hi) / 2] c
      · have HN : Hid (bsB L c f lo ((lo + hi) / 2) = placeB L c) := by unfold Hid; rw [← HR.out, bsB_down hlt (by rw [he]; exact hq)]
        have HC : Hid (∀ w', Below wr.heap.size wr w' → Calls Try.prog 64 #[.slice xa L[(lo + hi) / 2].length xc, .slice ua c.length uc] w' fun e w'' => e = .returned (.bool false) ∧ Below w'.heap.size w' w'') := fun w' hb => l2Before_at (Ty.row_grow hr' hb) (Ty.row_grow hy' hb) hmx mc hq
        generalize (lo + hi) / 2 = mid at *
        generalize L[mid].length = lm at *
        clear he hq HR hr hr' hy' hc hxc hmx
        go_wp2_with (go_at_call 64; (with_reducible refine (HC.out _ (bb _)).mono ?_); rintro e w1 ⟨rfl, hb1⟩)
        have hB1 := btr hB hb1
        go_roundw
        case rel => exact ⟨lo, mid, f, hm1, by omega, by omega, rfl, rfl, HN, hB1⟩
        case measure => simp [intOf]; omega
      · have HN : Hid (bsB L c f ((lo + hi) / 2 + 1) hi = placeB L c) := by unfold Hid; rw [← HR.out, bsB_up hlt (by rw [he]; exact hq)]
        have HC : Hid (∀ w', Below wr.heap.size wr w' → Calls Try.prog 64 #[.slice xa L[(lo + hi) / 2].length xc, .slice ua c.length uc] w' fun e w'' => e = .returned (.bool true) ∧ Below w'.heap.size w' w'') := fun w' hb => l2Before_at (Ty.row_grow hr' hb) (Ty.row_grow hy' hb) hmx mc hq
        generalize (lo + hi) / 2 = mid at *
        generalize L[mid].length = lm at *
        clear he hq HR hr hr' hy' hc hxc hmx
        go_wp2_with (go_at_call 64; (with_reducible refine (HC.out _ (bb _)).mono ?_); rintro e w1 ⟨rfl, hb1⟩)
        have hB1 := btr hB hb1
        go_roundw
        case rel => exact ⟨mid + 1, hi, f, by omega, h2, by omega, by go_num, rfl, HN, hB1⟩
        case measure => simp [intOf]; omega
    · have HN : Hid (lo = placeB L c) := by unfold Hid; rw [← HR.out, bsB_end hlt]
      clear HR
      go_wp2_with fail
      go_ret
      exact ⟨by rw [HN.out]; rfl, hB⟩

/-- Where a clause stands in a list, or -1. -/
def atB (L : List (List Int)) (c : List Int) : Int := if L[placeB L c]? = some c then (placeB L c : Int) else -1
theorem atB_no {L : List (List Int)} {c : List Int} (h : ¬ placeB L c < L.length) : atB L c = -1 := by
  unfold atB
  rw [List.getElem?_eq_none (by omega), if_neg (by simp)]
theorem atB_at {L : List (List Int)} {c : List Int} (h : placeB L c < L.length) : atB L c = if L[placeB L c] = c then (placeB L c : Int) else -1 := by
  unfold atB
  rw [List.getElem?_eq_getElem h]
  simp

set_option maxHeartbeats 2000000 in
theorem l2At_any (v u : Value) (L : List (List Int)) (c : List Int) (F G : List Nat) (w : World) (hx : (Ty.slice Ty.int).row false w v L F) (hy : Ty.int.row false w u c G) (mL : ∀ x ∈ L, Mild x) (mc : Mild c) (hl : L.length ≤ 1000000000) :
    Calls Try.prog 30 #[v, u] w fun e w' => e = .returned (.int .i64 (atB L c)) ∧ Below w.heap.size w w' := by
  obtain ⟨a, cap, rfl, hx1, hx2, hx3⟩ := row_slices hx
  obtain ⟨ua, uc, rfl, _, _⟩ := Ty.row_len hy
  have hple := placeB_le L c
  by_cases hlt : placeB L c < L.length
  · rcases hx3 with ⟨rfl, rfl⟩ | ⟨hxn, b, off, rfl, _, hxc⟩
    · exact absurd hlt (by simp)
    obtain ⟨x, Fk, hc, hr, _⟩ := hxc _ hlt
    obtain ⟨xa, xc, rfl, _, _⟩ := Ty.row_len hr
    have hlt' : (placeB L c : Int) < (L.length : Int) := by omega
    cases hq : decide (L[placeB L c] = c)
    · have HF : Hid (atB L c = -1) := by unfold Hid; rw [atB_at hlt, if_neg (by simpa using hq)]
      go_enter Try.func30, Try.ntmps30
      go_wp2_with fail
      refine (l2Place_any _ _ L c F G _ hx hy mL mc hl).mono ?_
      rintro e w1 ⟨rfl, hb1⟩
      have k0 := (hc.keep (hb1.block b hc.lt)).1
      go_wp2_with (go_at_call 51; (with_reducible refine (l1Same_at (Ty.row_grow hr hb1) (Ty.row_grow hy hb1) hq).mono ?_); rintro e w2 ⟨rfl, hb2⟩)
      go_ret
      exact ⟨ret_int (by rw [HF.out]), btr hb1 hb2⟩
    · have HF : Hid (atB L c = placeB L c) := by unfold Hid; rw [atB_at hlt, if_pos (by simpa using hq)]
      go_enter Try.func30, Try.ntmps30
      go_wp2_with fail
      refine (l2Place_any _ _ L c F G _ hx hy mL mc hl).mono ?_
      rintro e w1 ⟨rfl, hb1⟩
      have k0 := (hc.keep (hb1.block b hc.lt)).1
      go_wp2_with (go_at_call 51; (with_reducible refine (l1Same_at (Ty.row_grow hr hb1) (Ty.row_grow hy hb1) hq).mono ?_); rintro e w2 ⟨rfl, hb2⟩)
      go_ret
      exact ⟨ret_int (by rw [HF.out]), btr hb1 hb2⟩
  · have HF : Hid (atB L c = -1) := atB_no hlt
    have hlt' : ¬ (placeB L c : Int) < (L.length : Int) := by omega
    go_enter Try.func30, Try.ntmps30
    go_wp2_with fail
    refine (l2Place_any _ _ L c F G _ hx hy mL mc hl).mono ?_
    rintro e w1 ⟨rfl, hb1⟩
    go_wp2_with fail
    go_ret
    exact ⟨ret_int (by rw [HF.out]), hb1⟩
end Go.Proofs.Ytebpknekaljgnaa
