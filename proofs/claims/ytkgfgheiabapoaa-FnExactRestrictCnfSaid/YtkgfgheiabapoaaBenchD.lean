/- Contracts for bench steps: the program's. -/
import Derived.Test.YtkgfgheiabapoaaBenchC
import Derived.Test.YtkgfgheiabapoaaShelf
import Derived.Deep.RegionHeld3
import Derived.Deep.DeepCutAuto
namespace Go.Proofs.Ytkgfgheiabapoaa
open Go.RowKit

theorem heap_at (w : World) (o : Obj) (g : Nat) (hg : g = w.heap.size) : (w.alloc o).heap[g]? = some o := by subst hg; exact heap_alloc_new w o
theorem heap_at_drew (w : World) (o : Obj) (g : Nat) (hg : g = w.heap.size) : ((w.alloc o).drew).heap[g]? = some o := heap_at w o g hg
theorem row_blk {w : World} {g l : Nat} {arr : Array Value} {t : TypeId} (xs : List Int) (hh : w.heap[g]? = some (.cells arr t)) (hl : l = xs.length) (ha : arr = (xs.map (Value.int .i64)).toArray) (hne : xs ≠ []) (hi : ∀ x ∈ xs, I64 x) (hm : xs.length ≤ 9223372036854775807) :
    Ty.int.row true w (.slice (some ⟨g, 0, none⟩) l l) xs [g] := by
  subst hl ha
  refine row_int_mk hi (Nat.le_refl _) hm hne (fun j hj => ⟨?_, fun _ => ?_⟩)
  · rw [Nat.zero_add]; unfold World.cell?; simp only [hh]; simp [hj]
  · unfold World.frozen?; simp only [hh]; simp

/-- A row of ints by its cells. -/
theorem row_cells {wr : Bool} {w : World} {v : Value} {xs : List Int} {F : List Nat} (h : Ty.int.row wr w v xs F) (hne : xs ≠ []) :
    ∃ b off cap, v = .slice (some ⟨b, off, none⟩) xs.length cap ∧ F = [b] ∧ xs.length ≤ cap ∧ cap ≤ 9223372036854775807 ∧ ∀ j, j < xs.length → w.cell? ⟨b, off + j, none⟩ = some (.int .i64 (xs.getD j 0)) := by
  obtain ⟨a, c, rfl, hx1, hx2, _, ⟨e, _⟩ | ⟨_, b, off, rfl, rfl, hc⟩⟩ := row_int h
  · exact absurd e hne
  · exact ⟨b, off, c, rfl, rfl, hx1, hx2, fun j hj => by rw [(hc j hj).1]; simp [hj]⟩

/-- A number is among the numbers. -/
def hasI (xs : List Int) (x : Int) : Bool := xs.contains x

theorem containsInt_any (v : Value) (xs : List Int) (F : List Nat) (x : Int) (w : World) (h : Ty.int.row false w v xs F) :
    Calls Try.prog 67 #[v, .int .i64 x] w fun e w' => e = .returned (.bool (hasI xs x)) ∧ w = w' := by
  by_cases hne : xs = []
  · subst hne
    obtain ⟨a, c, rfl, _, _⟩ := Ty.row_len h
    exact (Try.slices_Contains_int_empty a c x w).mono fun e w' ⟨h1, h2⟩ => ⟨h1, h2.symm⟩
  · obtain ⟨b, off, c, rfl, _, h1, h2, hc⟩ := row_cells h hne
    exact (Try.slices_Contains_int b off xs.length c xs x w (Nat.le_refl _) (by omega) hc).mono fun e w' ⟨h1, h2⟩ => ⟨by rw [h1, List.take_length]; rfl, h2.symm⟩

set_option maxHeartbeats 400000 in
theorem kinds_any (v : Value) (xs : List Int) (F : List Nat) (k : Int) (b : Nat) (w : World) (h : Ty.int.row false w v xs F) (hc : w.cell? ⟨b, 0, none⟩ = some (.int .i64 k)) :
    Calls Try.prog 66 #[v, .pointer (some ⟨b, 0, none⟩)] w fun e w' => e = .returned (.bool (hasI xs k)) ∧ w = w' := by
  go_enter Try.func66, Try.ntmps66
  go_wp2_with (go_at_call 67; refine (containsInt_any _ xs F _ _ h).mono ?_; rintro e w1 ⟨rfl, rfl⟩)
  go_ret
  exact ⟨rfl, rfl⟩

def stepI (k : Int) (t : List UInt8) (a b v : Int) (n : Nat) : Bool :=
  inB k 1 11 && decide (0 ≤ a) && decide (0 ≤ b) && decide ((n : Int) ≤ 12) && (t.isEmpty || hasI [1] k) && ((a == 0) || hasI [2, 3, 4, 5] k) && ((b == 0) || hasI [3] k) && ((v != 0) == hasI [3, 8] k) && (((n : Int) == 0) || hasI [4] k)

theorem kinds_at (xs : List Int) (arr : Array Value) (g l : Nat) (k : Int) (b : Nat) (w : World) (t : TypeId) (hne : xs ≠ []) (hi : ∀ x ∈ xs, I64 x) (hm : xs.length ≤ 9223372036854775807) (hl : l = xs.length) (ha : arr = (xs.map (Value.int .i64)).toArray) (hh : w.heap[g]? = some (.cells arr t)) (hc : w.cell? ⟨b, 0, none⟩ = some (.int .i64 k)) :
    Calls Try.prog 66 #[.slice (some ⟨g, 0, none⟩) l l, .pointer (some ⟨b, 0, none⟩)] w fun e w' => e = .returned (.bool (hasI xs k)) ∧ w = w' :=
  kinds_any _ xs _ k b _ (Ty.row_down (row_blk xs hh hl ha hne hi hm)) hc

/-- The boxed step lies in the first new block. -/
def BInv (k a b v : Int) (t : ByteArray) (ad : Option Addr) (n c : Nat) (w wx : World) : Prop :=
  wx.cell? ⟨w.heap.size, 0, none⟩ = some (.int .i64 k) ∧ wx.cell? ⟨w.heap.size, 1, none⟩ = some (.string t) ∧ wx.cell? ⟨w.heap.size, 2, none⟩ = some (.int .i64 a) ∧ wx.cell? ⟨w.heap.size, 3, none⟩ = some (.int .i64 b) ∧
    wx.cell? ⟨w.heap.size, 4, none⟩ = some (.int .i64 v) ∧ wx.cell? ⟨w.heap.size, 5, none⟩ = some (.slice ad n c) ∧ Below w.heap.size w wx ∧ w.heap.size < wx.heap.size

theorem BInv.alloc {k a b v : Int} {t : ByteArray} {ad : Option Addr} {n c : Nat} {w wx : World} (h : BInv k a b v t ad n c w wx) (o : Obj) : BInv k a b v t ad n c w (wx.alloc o) := by
  obtain ⟨c0, c1, c2, c3, c4, c5, hB, hs⟩ := h
  have hc := (bcell (bal (bb wx) o)).1 w.heap.size
  exact ⟨by rw [hc _ hs]; exact c0, by rw [hc _ hs]; exact c1, by rw [hc _ hs]; exact c2, by rw [hc _ hs]; exact c3, by rw [hc _ hs]; exact c4, by rw [hc _ hs]; exact c5, bal hB o, by simp; omega⟩
theorem BInv.drew {k a b v : Int} {t : ByteArray} {ad : Option Addr} {n c : Nat} {w wx : World} (h : BInv k a b v t ad n c w wx) : BInv k a b v t ad n c w wx.drew := by
  obtain ⟨c0, c1, c2, c3, c4, c5, hB, hs⟩ := h
  exact ⟨c0, c1, c2, c3, c4, c5, bdr hB, hs⟩
theorem BInv.new (k a b v : Int) (t : ByteArray) (ad : Option Addr) (n c : Nat) (w : World) (T : TypeId) : BInv k a b v t ad n c w (w.alloc (.cells #[.int .i64 k, .string t, .int .i64 a, .int .i64 b, .int .i64 v, .slice ad n c] T)) :=
  ⟨by simp [go_sem], by simp [go_sem], by simp [go_sem], by simp [go_sem], by simp [go_sem], by simp [go_sem], bal (bb _) _, by simp⟩

set_option maxHeartbeats 2000000 in
theorem implIsBenchStep_ok (k a b v : Int) (t : ByteArray) (ad : Option Addr) (n c : Nat) (w : World) (hk : inB k 1 11 = true) (ha : 0 ≤ a) (hb : 0 ≤ b) (hn : (n : Int) ≤ 12) :
    Calls Try.prog 17 #[.agg #[.int .i64 k, .string t, .int .i64 a, .int .i64 b, .int .i64 v, .slice ad n c]] w fun e w' => e = .returned (.bool (stepI k (bl t) a b v n)) ∧ Below w.heap.size w w' := by
  have HS : Hid (stepI k (bl t) a b v n = ((!(!(bl t).isEmpty && !hasI [1] k)) && (!((a != 0) && !hasI [2, 3, 4, 5] k)) && (!((b != 0) && !hasI [3] k)) && (!((v != 0) != hasI [3, 8] k)) && (((n : Int) == 0) || hasI [4] k))) := by
    unfold Hid stepI; rw [hk]; simp [ha, hb, hn, bne]
  go_enter Try.func17, Try.ntmps17
  go_upto_region 4 with (first
    | (go_at_call 65; refine (within_any _ _ _ _).mono ?_; rintro e w1 ⟨rfl, rfl⟩))
  go_cut [25] (fun s wx => ∃ q : Bool, Hid (q = (!(bl t).isEmpty && !hasI [1] k)) ∧ s = .bool q ∧ BInv k a b v t ad n c w wx)
  case first =>
    go_wp2_with (first | (go_at_call 66; (with_reducible refine (kinds_at [1] #[.int .i64 1] _ 1 k _ _ _ (by simp) (by simp [I64]) (by simp) rfl rfl (heap_at _ _ _ (by simp)) (by simp [go_sem, *])).mono ?_); rintro e w2 ⟨rfl, rfl⟩))
    all_goals (go_meet; exact ⟨_, by unfold Hid; first | rfl | simp [*], rfl, by first | exact BInv.new k a b v t ad n c w _ | exact (BInv.new k a b v t ad n c w _).alloc _⟩)
  case rest =>
  obtain ⟨q25, H25, rfl, HI⟩ := hcut
  by_cases hq25 : q25 = true
  · subst hq25
    go_wp2_with fail
    go_ret
    exact ⟨ret_bool (by rw [HS.out, ← H25.out]; simp), HI.2.2.2.2.2.2.1⟩
  obtain rfl : q25 = false := by simpa using hq25
  clear hq25
  go_upto_region 6 with fail
  go_cut [35] (fun s wx => ∃ q : Bool, Hid (q = ((a != 0) && !hasI [2, 3, 4, 5] k)) ∧ s = .bool q ∧ BInv k a b v t ad n c w wx)
  case first =>
    have HJ := Lib.hid HI
    obtain ⟨c0, c1, c2, c3, c4, c5, hB, hs⟩ := HI
    go_wp2_with (first | (go_at_call 66; (with_reducible refine (kinds_at [2, 3, 4, 5] #[.int .i64 2, .int .i64 3, .int .i64 4, .int .i64 5] _ 4 k _ _ _ (by simp) (by simp [I64]) (by simp) rfl rfl (heap_at _ _ _ (by simp)) (by simp [go_sem, *])).mono ?_); rintro e w2 ⟨rfl, rfl⟩))
    all_goals (try (have h0 : a = 0 := (by assumption); subst h0))
    all_goals (try (have h0 : b = 0 := (by assumption); subst h0))
    all_goals (go_meet; exact ⟨_, by unfold Hid; first | rfl | simp [*], rfl, by first | exact HJ.out | exact (HJ.out).alloc _⟩)
  case rest =>
  obtain ⟨q35, H35, rfl, HI⟩ := hcut
  by_cases hq35 : q35 = true
  · subst hq35
    go_wp2_with fail
    go_ret
    exact ⟨ret_bool (by rw [HS.out, ← H35.out]; simp), HI.2.2.2.2.2.2.1⟩
  obtain rfl : q35 = false := by simpa using hq35
  clear hq35
  go_upto_region 8 with fail
  go_cut [45] (fun s wx => ∃ q : Bool, Hid (q = ((b != 0) && !hasI [3] k)) ∧ s = .bool q ∧ BInv k a b v t ad n c w wx)
  case first =>
    have HJ := Lib.hid HI
    obtain ⟨c0, c1, c2, c3, c4, c5, hB, hs⟩ := HI
    go_wp2_with (first | (go_at_call 66; (with_reducible refine (kinds_at [3] #[.int .i64 3] _ 1 k _ _ _ (by simp) (by simp [I64]) (by simp) rfl rfl (heap_at _ _ _ (by simp)) (by simp [go_sem, *])).mono ?_); rintro e w2 ⟨rfl, rfl⟩))
    all_goals (try (have h0 : a = 0 := (by assumption); subst h0))
    all_goals (try (have h0 : b = 0 := (by assumption); subst h0))
    all_goals (go_meet; exact ⟨_, by unfold Hid; first | rfl | simp [*], rfl, by first | exact HJ.out | exact (HJ.out).alloc _⟩)
  case rest =>
  obtain ⟨q45, H45, rfl, HI⟩ := hcut
  by_cases hq45 : q45 = true
  · subst hq45
    go_wp2_with fail
    go_ret
    exact ⟨ret_bool (by rw [HS.out, ← H45.out]; simp), HI.2.2.2.2.2.2.1⟩
  obtain rfl : q45 = false := by simpa using hq45
  clear hq45
  go_upto_region 10 with fail
  go_cut [55] (fun s wx => ∃ q : Bool, Hid (q = ((v != 0) != hasI [3, 8] k)) ∧ s = .bool q ∧ BInv k a b v t ad n c w wx)
  case first =>
    have HJ := Lib.hid HI
    obtain ⟨c0, c1, c2, c3, c4, c5, hB, hs⟩ := HI
    go_region_held3 (fun w' => w'.cell? ⟨w.heap.size, 0, none⟩ = some (.int .i64 k) ∧ w'.cell? ⟨w.heap.size, 4, none⟩ = some (.int .i64 v)) (go_keep) (first | (go_at_call 66; (with_reducible refine (kinds_at [3, 8] #[.int .i64 3, .int .i64 8] _ 2 k _ _ _ (by simp) (by simp [I64]) (by simp) rfl rfl (heap_at_drew _ _ _ (by simp)) (by simp [go_sem, *])).mono ?_); rintro e w2 ⟨rfl, rfl⟩))
    all_goals (go_wp2_with fail; go_meet; exact ⟨_, by unfold Hid; rfl, rfl, by first | exact HJ.out.drew | exact (HJ.out.alloc _).drew⟩)
  case rest =>
  obtain ⟨q55, H55, rfl, HI⟩ := hcut
  by_cases hq55 : q55 = true
  · subst hq55
    go_wp2_with fail
    go_ret
    exact ⟨ret_bool (by rw [HS.out, ← H55.out]; simp), HI.2.2.2.2.2.2.1⟩
  obtain rfl : q55 = false := by simpa using hq55
  clear hq55
  go_upto_region 12 with fail
  have HJ := Lib.hid HI
  obtain ⟨c0, c1, c2, c3, c4, c5, hB, hs⟩ := HI
  go_wp2_with (first | (go_at_call 66; (with_reducible refine (kinds_at [4] #[.int .i64 4] _ 1 k _ _ _ (by simp) (by simp [I64]) (by simp) rfl rfl (heap_at _ _ _ (by simp)) (by simp [go_sem, *])).mono ?_); rintro e w2 ⟨rfl, rfl⟩))
  all_goals go_ret
  all_goals exact ⟨ret_bool (by rw [HS.out, ← H25.out, ← H35.out, ← H45.out, ← H55.out]; simp [*]), by first | exact hB | exact bal hB _⟩

set_option maxHeartbeats 2000000 in
theorem implIsBenchStep_no (k a b v : Int) (t : ByteArray) (ad : Option Addr) (n c : Nat) (w : World) (h : ¬ (inB k 1 11 = true ∧ 0 ≤ a ∧ 0 ≤ b ∧ (n : Int) ≤ 12)) :
    Calls Try.prog 17 #[.agg #[.int .i64 k, .string t, .int .i64 a, .int .i64 b, .int .i64 v, .slice ad n c]] w fun e w' => e = .returned (.bool (stepI k (bl t) a b v n)) ∧ Below w.heap.size w w' := by
  have HS : Hid (stepI k (bl t) a b v n = false) := by
    unfold Hid stepI
    by_cases h1 : inB k 1 11 = true
    · by_cases h2 : 0 ≤ a
      · by_cases h3 : 0 ≤ b
        · have h4 : ¬ (n : Int) ≤ 12 := fun h4 => h ⟨h1, h2, h3, h4⟩
          simp [h4]
        · simp [h3]
      · simp [h2]
    · simp [h1]
  by_cases h1 : inB k 1 11 = true
  case neg =>
    go_enter Try.func17, Try.ntmps17
    go_wp2_with (go_at_call 65; refine (within_any _ _ _ _).mono ?_; rintro e w1 ⟨rfl, rfl⟩)
    go_ret
    exact ⟨ret_bool HS.out.symm, bal (bb _) _⟩
  by_cases h2 : a < 0
  · clear h
    go_enter Try.func17, Try.ntmps17
    go_wp2_with (go_at_call 65; refine (within_any _ _ _ _).mono ?_; rintro e w1 ⟨rfl, rfl⟩)
    go_ret
    exact ⟨ret_bool HS.out.symm, bal (bb _) _⟩
  by_cases h3 : b < 0
  · clear h
    go_enter Try.func17, Try.ntmps17
    go_wp2_with (go_at_call 65; refine (within_any _ _ _ _).mono ?_; rintro e w1 ⟨rfl, rfl⟩)
    go_ret
    exact ⟨ret_bool HS.out.symm, bal (bb _) _⟩
  have h4 : 12 < (n : Int) := by
    rcases Int.lt_or_le 12 (n : Int) with h4 | h4
    · exact h4
    · exact absurd ⟨h1, by omega, by omega, h4⟩ h
  clear h
  go_enter Try.func17, Try.ntmps17
  go_wp2_with (go_at_call 65; refine (within_any _ _ _ _).mono ?_; rintro e w1 ⟨rfl, rfl⟩)
  go_ret
  exact ⟨ret_bool HS.out.symm, bal (bb _) _⟩

theorem implIsBenchStep_any (k a b v : Int) (t : ByteArray) (ad : Option Addr) (n c : Nat) (w : World) :
    Calls Try.prog 17 #[.agg #[.int .i64 k, .string t, .int .i64 a, .int .i64 b, .int .i64 v, .slice ad n c]] w fun e w' => e = .returned (.bool (stepI k (bl t) a b v n)) ∧ Below w.heap.size w w' := by
  by_cases h : inB k 1 11 = true ∧ 0 ≤ a ∧ 0 ≤ b ∧ (n : Int) ≤ 12
  · exact implIsBenchStep_ok k a b v t ad n c w h.1 h.2.1 h.2.2.1 h.2.2.2
  · exact implIsBenchStep_no k a b v t ad n c w h

theorem stepI_eq (k a b v : Int) (t : List UInt8) (n : Nat) : stepI k t a b v n = stepB k t a b v n := by
  unfold stepI stepB
  by_cases hk : inB k 1 11 = true
  · have hr := inB_true.1 hk
    rw [hk]
    have h1 : (v != 0) = !(v == 0) := rfl
    rw [h1]
    generalize (decide (0 ≤ a)) = p1
    generalize (decide (0 ≤ b)) = p2
    generalize (decide ((n : Int) ≤ 12)) = p3
    generalize t.isEmpty = e1
    generalize (a == 0) = e2
    generalize (b == 0) = e3
    generalize (v == 0) = e4
    generalize ((n : Int) == 0) = e5
    obtain h | h | h | h | h | h | h | h | h | h | h : k = 1 ∨ k = 2 ∨ k = 3 ∨ k = 4 ∨ k = 5 ∨ k = 6 ∨ k = 7 ∨ k = 8 ∨ k = 9 ∨ k = 10 ∨ k = 11 := by omega
    all_goals
      subst h
      revert p1 p2 p3 e1 e2 e3 e4 e5
      decide
  · have hk' : inB k 1 11 = false := by simpa using hk
    have hn : ¬ (1 ≤ k ∧ k ≤ 11) := inB_false.1 hk'
    rw [hk']
    unfold kindB
    rw [if_neg (by omega), if_neg (by omega), if_neg (by omega), if_neg (by omega), if_neg (by omega), if_neg (by omega)]
    simp
end Go.Proofs.Ytkgfgheiabapoaa
