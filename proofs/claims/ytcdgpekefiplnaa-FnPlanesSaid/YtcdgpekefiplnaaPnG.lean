/- Contracts: AddPlanes, DividePlane and OppositePlane, in the program. -/
import Derived.Test.YtcdgpekefiplnaaPnF
namespace Go.Proofs.Ytcdgpekefiplnaa
open Go.RowKit

theorem comb_map (g : Int → Int) (cs : List Int) : ((List.range cs.length).map fun i => g (cs.getD i 0)) = cs.map g := by
  apply List.ext_getElem
  · simp
  · intro i h1 h2
    simp only [List.length_map, List.length_range] at h1
    simp [List.getD_eq_getElem?_getD, h1]
theorem comb_add (cs ds : List Int) : combK addF cs ds cs.length = addQ cs ds := rfl
theorem comb_mul (k : Int) (cs : List Int) : combK (mulF k) cs cs cs.length = mulQ k cs := comb_map (fun x => k * x) cs
theorem add_len (cs ds : List Int) : (addQ cs ds).length = cs.length := by simp [addQ]

/-- A quotient is rounded up. -/
theorem up_eq (a k : Int) (hk : 0 < k) : (if 0 < a.tmod k then a.tdiv k + 1 else a.tdiv k) = upQ a k := by
  unfold upQ
  rcases Int.lt_or_le a 0 with h | h
  · have e1 : a.tdiv k = -((-a) / k) := by
      rw [show a = -(-a) by omega, Int.neg_tdiv, Int.tdiv_eq_ediv_of_nonneg (by omega)]; simp
    have e2 : a.tmod k = -((-a) % k) := by
      rw [show a = -(-a) by omega, Int.neg_tmod, Int.tmod_eq_emod_of_nonneg (by omega)]; simp
    have h2 := Int.emod_nonneg (-a) (show k ≠ 0 by omega)
    rw [e1, e2, if_neg (by omega)]
  · rw [Int.tdiv_eq_ediv_of_nonneg h, Int.tmod_eq_emod_of_nonneg h]
    have hd := Int.mul_ediv_add_emod a k
    have h2 := Int.emod_nonneg a (show k ≠ 0 by omega)
    have h3 := Int.emod_lt_of_pos a hk
    generalize a / k = q at *
    generalize a % k = r at *
    generalize hm : (-a) / k = m
    by_cases hr : 0 < r
    · rw [if_pos hr]
      have u1 : -q - 1 ≤ m := by
        rw [← hm, Int.le_ediv_iff_mul_le hk, Int.sub_mul, Int.neg_mul, Int.mul_comm q k, Int.one_mul]; omega
      have u2 : m < -q := by
        rw [← hm, Int.ediv_lt_iff_lt_mul hk, Int.neg_mul, Int.mul_comm q k]; omega
      omega
    · rw [if_neg hr]
      have u1 : -q ≤ m := by
        rw [← hm, Int.le_ediv_iff_mul_le hk, Int.neg_mul, Int.mul_comm q k]; omega
      have u2 : m < -q + 1 := by
        rw [← hm, Int.ediv_lt_iff_lt_mul hk, Int.add_mul, Int.neg_mul, Int.mul_comm q k, Int.one_mul]; omega
      omega
theorem tdiv_near {a k m : Int} (ha : -m ≤ a ∧ a ≤ m) : -m ≤ a.tdiv k ∧ a.tdiv k ≤ m := by
  have := Int.natAbs_tdiv_le_natAbs a k
  omega
theorem up_near {a k m : Int} (hk : 2 ≤ k) (ha : -m ≤ a ∧ a ≤ m) : -m ≤ upQ a k ∧ upQ a k ≤ m := by
  unfold upQ
  have u1 : -m ≤ -a / k := by
    rw [Int.le_ediv_iff_mul_le (by omega)]
    have : m * 1 ≤ m * k := Int.mul_le_mul_of_nonneg_left (by omega) (by omega)
    rw [Int.neg_mul]; omega
  have u2 : -a / k < m + 1 := by
    rw [Int.ediv_lt_iff_lt_mul (by omega)]
    have : (m + 1) * 1 ≤ (m + 1) * k := Int.mul_le_mul_of_nonneg_left (by omega) (by omega)
    omega
  omega
def upF (k x _y : Int) : Int := upQ x k
theorem comb_up {k : Int} {cs : List Int} (hk : 0 < k) (h : ∀ c ∈ cs, c.tmod k = 0) : combK (upF k) cs cs cs.length = divQ k cs := by
  rw [show combK (upF k) cs cs cs.length = cs.map (fun x => upQ x k) from comb_map (fun x => upQ x k) cs]
  unfold divQ
  apply List.map_congr_left
  intro c hc
  rw [← up_eq c k hk, if_neg (by rw [h c hc]; omega)]
theorem div_good {vars b k : Int} {cs : List Int} (hk : 2 ≤ k) (h : goodQ vars b cs = true) : goodQ vars (upQ b k) (divQ k cs) = true := by
  obtain ⟨h1, h2, h3, h4⟩ := good_q h
  have hb := up_near (m := 10000) hk h3
  unfold goodQ
  simp only [Bool.and_eq_true, inB, decide_eq_true_eq, List.all_eq_true, coefB]
  refine ⟨⟨⟨h1, by simp [divQ]; exact h2⟩, hb⟩, fun c hc => ?_⟩
  simp only [divQ, List.mem_map] at hc
  obtain ⟨x, hx, rfl⟩ := hc
  exact tdiv_near (h4 x hx)

set_option maxRecDepth 100000 in
theorem divideUp_any (a k : Int) (hk : 2 ≤ k ∧ k ≤ 1000) (ha : Near a) (w : World) : Calls Try.prog 59 #[.int .i64 a, .int .i64 k] w fun e w' => e = .returned (.int .i64 (upQ a k)) ∧ Below w.heap.size w w' := by
  have hR := Lib.hid (up_eq a k (by omega)).symm
  have hd := tdiv_near (k := k) ha
  have hk0 : (k == 0) = false := by rw [beq_eq_false_iff_ne]; omega
  have hk1 : (k == -1) = false := by rw [beq_eq_false_iff_ne]; omega
  have hm : -1000 ≤ a.tmod k ∧ a.tmod k ≤ 1000 := by
    have h1 := Int.natAbs_tmod a k
    have h2 := Nat.mod_lt a.natAbs (show 0 < k.natAbs by omega)
    omega
  have hw1 : wrap64 (a.tdiv k) = a.tdiv k := IntWalk.wrap64_in _ (by omega)
  have hw3 : wrap64 (a.tdiv k + 1) = a.tdiv k + 1 := IntWalk.wrap64_in _ (by omega)
  by_cases hr : 0 < a.tmod k
  · rw [if_pos hr] at hR
    go_enter Try.func59, Try.ntmps59
    go_wp2_with fail
    go_ret
    exact ⟨ret_int hR.out.symm, bb _⟩
  · rw [if_neg hr] at hR
    go_enter Try.func59, Try.ntmps59
    go_wp2_with fail
    go_ret
    exact ⟨ret_int hR.out.symm, bb _⟩
set_option maxRecDepth 100000 in
theorem dividePlane1_any (k x : Int) (hk : 2 ≤ k ∧ k ≤ 1000) (hx : Near x) (g : Nat) (w : World) (c0 : w.cell? ⟨g, 0, none⟩ = some (.int .i64 k)) :
    Calls Try.prog 57 #[.int .i64 x, .pointer (some ⟨g, 0, none⟩)] w fun e w' => e = .returned (.bool (x.tmod k != 0)) ∧ Below w.heap.size w w' := by
  have hk0 : (k == 0) = false := by rw [beq_eq_false_iff_ne]; omega
  have hk1 : (k == -1) = false := by rw [beq_eq_false_iff_ne]; omega
  go_enter Try.func57, Try.ntmps57
  go_wp2_with fail
  go_ret
  exact ⟨rfl, bb _⟩
set_option maxRecDepth 100000 in
theorem dividePlane2_any (k : Int) (hk : 2 ≤ k ∧ k ≤ 1000) (g : Nat) (w0 : World) (c0 : w0.cell? ⟨g, 0, none⟩ = some (.int .i64 k)) : Fn2 w0 58 #[.pointer (some ⟨g, 0, none⟩)] (upF k) := by
  intro x y w hx hy hb
  have c1 := ((bcell hb).1 _ _ (World.block_lt_of_cell? _ _ c0)).trans c0
  have hR : Hid (upF k x y = upQ x k) := rfl
  have h1 := Lib.hid (divideUp_any x k hk hx w)
  clear c0 hb
  show Calls Try.prog 58 #[.int .i64 x, .int .i64 y, .pointer (some ⟨g, 0, none⟩)] w _
  go_enter Try.func58, Try.ntmps58
  go_wp2_with fail
  refine h1.out.mono ?_
  rintro e w1 ⟨rfl, hb1⟩
  go_wp2_with fail
  go_ret
  exact ⟨ret_int hR.out.symm, hb1⟩

/-- An inequality and whether it could be divided. -/
def DPost (w : World) (q : Bool) (b : Int) (cs : List Int) (e : Ending) (w' : World) : Prop :=
  ∃ A c, e = .returned (.tuple #[.agg #[.slice A (zq q cs).length c, .int .i64 (zb q b)], .bool q]) ∧ IntsAt w' A (zq q cs) ∧ (∀ a, A = some a → w.heap.size ≤ a.block) ∧ Below w.heap.size w w'
theorem fresh_none (w : World) : ∀ a : Addr, none = some a → w.heap.size ≤ a.block := fun a h => by cases h
set_option maxRecDepth 100000 in
set_option maxHeartbeats 2000000 in
theorem dividePlane_any (k : Int) (hk : 2 ≤ k ∧ k ≤ 1000) (cs : List Int) (b : Int) (A : Option Addr) (ca : Nat) (w : World) (hx : IntsAt w A cs) (hl : cs.length ≤ 12) (hc : ∀ c ∈ cs, Near c) (hb : Near b) :
    Calls Try.prog 33 #[.agg #[.slice A cs.length ca, .int .i64 b], .int .i64 k] w (DPost w (!(cs.any fun c => c.tmod k != 0)) (upQ b k) (divQ k cs)) := by
  have eg1 : Enter1 57 := enters_of Try.func57 (by kernel_rfl) rfl
  have eg2 : Enter1 58 := enters_of Try.func58 (by kernel_rfl) rfl
  have S0 := ((Sp.start w).alloc_box #[.slice A cs.length ca, .int .i64 b] 26).alloc_box #[.int .i64 k] 3 |>.alloc_box #[.slice none 0 0, .int .i64 0] 26
  simp only [World.size_alloc] at S0
  have c0 := S0.cell (i := 2) rfl (o := 0) rfl
  have c2 := S0.cell (i := 1) rfl (o := 0) rfl
  have h1 := Lib.hid (containsI_any (cb := #[.pointer (some ⟨w.heap.size + 1, 0, none⟩)]) (R := Near) eg1 cs A ca _ (sp_ints S0 hx) (by omega) hc (fun x W hx hb => dividePlane1_any k x hk hx _ W (((bcell hb).1 _ _ (World.block_lt_of_cell? _ _ c2)).trans c2)))
  replace S0 := Lib.hid S0
  cases hq : (cs.any fun c => c.tmod k != 0)
  case true =>
    rw [hq] at h1
    clear hx hc c2 hq eg1 eg2
    go_enter Try.func33, Try.ntmps33
    go_wp2_with fail
    refine h1.out.mono ?_
    rintro e w1 ⟨rfl, hb1⟩
    have S1 := Lib.hid (S0.out.grow hb1)
    clear S0 h1 c0 hb1
    have r0 := S1.out.cell (i := 0) rfl (o := 0) rfl
    have r1 := S1.out.cell (i := 0) rfl (o := 1) rfl
    have f0 := S1.out.frozen (i := 0) rfl 0
    have f1 := S1.out.frozen (i := 0) rfl 1
    have SF := (S1.out.store (i := 0) rfl 0 (.slice none 0 0)).store (i := 0) rfl 1 (.int .i64 0)
    have j0 := SF.cell (i := 0) rfl (o := 0) rfl
    have j1 := SF.cell (i := 0) rfl (o := 1) rfl
    have hB := SF.below
    clear SF
    go_wp2_with fail
    exact bodyPost_ret (v := .tuple #[.agg #[.slice none 0 0, .int .i64 0], .bool false]) (by simp [results, Try.results33, go_sem, j0, j1]) rfl (⟨none, 0, rfl, IntsAt.nil _ _, fresh_none w, hB⟩)
  case false =>
    rw [hq] at h1
    have hz : ∀ c ∈ cs, c.tmod k = 0 := fun c hc => by
      have := List.any_eq_false.1 hq c hc
      simpa using this
    have hcu := comb_up (by omega) hz
    have h2 := Lib.hid (fun W (h : Sp w W [Box (w.heap.size + 1 + 1) 26 #[.slice none 0 0, .int .i64 0], Box (w.heap.size + 1) 3 #[.int .i64 k], Box w.heap.size 26 #[.slice A cs.length ca, .int .i64 b]]) => combined_any (cb := #[.pointer (some ⟨w.heap.size + 1, 0, none⟩)]) eg2 cs cs b b A A ca ca W (sp_ints h hx) (sp_ints h hx) hl rfl hc hc hb hb (fun x y hx hy => by have := up_near (m := 10000) hk.1 hx; unfold upF I64; omega) (dividePlane2_any k hk (w.heap.size + 1) W (h.cell (i := 1) rfl (o := 0) rfl)))
    rw [hcu, show upF k b b = upQ b k from rfl] at h2
    generalize divQ k cs = es at *
    generalize upQ b k = z at *
    clear hx hc c2 hq hz hcu eg1 eg2
    go_enter Try.func33, Try.ntmps33
    go_wp2_with fail
    refine h1.out.mono ?_
    rintro e w1 ⟨rfl, hb1⟩
    have S1 := Lib.hid (S0.out.grow hb1)
    have d0 := S1.out.cell (i := 2) rfl (o := 0) rfl
    have d1 := S1.out.cell (i := 2) rfl (o := 1) rfl
    clear S0 h1 c0 hb1
    go_wp2_with fail
    refine (h2.out _ S1.out).mono ?_
    rintro e w2 ⟨E, ec, rfl, hI, hfr, hb2⟩
    have S2 := Lib.hid (S1.out.grow hb2)
    have hsz := S1.out.box (i := 0) rfl
    replace hI := Lib.hid hI
    replace hfr := Lib.hid hfr
    clear S1 h2 d0 d1 hb2
    have r0 := S2.out.cell (i := 0) rfl (o := 0) rfl
    have r1 := S2.out.cell (i := 0) rfl (o := 1) rfl
    have f0 := S2.out.frozen (i := 0) rfl 0
    have f1 := S2.out.frozen (i := 0) rfl 1
    have SF := (S2.out.store (i := 0) rfl 0 (.slice E es.length ec)).store (i := 0) rfl 1 (.int .i64 z)
    have j0 := SF.cell (i := 0) rfl (o := 0) rfl
    have j1 := SF.cell (i := 0) rfl (o := 1) rfl
    have hB := SF.below
    clear SF
    go_wp2_with fail
    exact bodyPost_ret (v := .tuple #[.agg #[.slice E es.length ec, .int .i64 z], .bool true]) (by simp [results, Try.results33, go_sem, j0, j1]) rfl (⟨E, ec, rfl, (hI.out.set (fun a ha => by have := hfr.out a ha; omega) 0 _).set (fun a ha => by have := hfr.out a ha; omega) 1 _, fun a ha => by have := hfr.out a ha; omega, hB⟩)

end Go.Proofs.Ytcdgpekefiplnaa
