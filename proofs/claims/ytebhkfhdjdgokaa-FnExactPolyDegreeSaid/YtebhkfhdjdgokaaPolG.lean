/- Contracts: polys and PolyDegree in the program. -/
import Derived.Test.YtebhkfhdjdgokaaPolF
namespace Go.Proofs.Ytebhkfhdjdgokaa
open Go.RowKit

theorem infoDense : (Try.prog.info? 67).map (fun i => (i.zero, i.size, i.bytes)) = some (some (.slice none 0 0), 1, 24) := by kernel_rfl

def PolysNo (p vars : Int) (w : World) (e : Ending) (w' : World) : Prop := e = .returned (.tuple #[.agg #[.int .i64 p, .int .i64 vars], .slice none 0 0, .bool false]) ∧ Below w.heap.size w w'
def PolysYes (p vars : Int) (d : List Int) (w : World) (e : Ending) (w' : World) : Prop := ∃ (g cap : Nat) (u : Value) (F : List Nat), e = .returned (.tuple #[.agg #[.int .i64 p, .int .i64 vars], .slice (some ⟨g, 0, none⟩) 1 cap, .bool true]) ∧ w'.cell? ⟨g, 0, none⟩ = some u ∧ Ty.int.row false w' u d F ∧ Below w.heap.size w w'

set_option maxRecDepth 100000 in
set_option maxHeartbeats 2000000 in
theorem polys_no (p vars : Int) (v : Value) (xs : List (Int × Int)) (F : List Nat) (A : Nat) (w : World) (hx : tmTy.row false w v xs F) (hA : w.cell? ⟨A, 0, none⟩ = some v) (hq : polyB p vars xs = false) :
    Calls Try.prog 33 #[.int .i64 p, .int .i64 vars, .slice (some ⟨A, 0, none⟩) 1 1] w (PolysNo p vars w) := by
  obtain ⟨a, c, rfl, _, _⟩ := Ty.row_len hx
  have hxH := Lib.hid hx
  have S0 := Lib.hid ((Sp.start w).alloc_box #[.int .i64 0, .int .i64 0] 63)
  cases hp : primeB p vars
  · go_enter Try.func33, Try.ntmps33
    go_wp2_with fail
    refine (ringOf_any _ _ _).mono ?_
    rw [hp]
    rintro e w1 ⟨rfl, hb1⟩
    have S1 := (S0.out.grow hb1).alloc_box #[.int .i64 p, .int .i64 vars] 63
    have r0 := S1.cell (i := 0) rfl (o := 0) rfl
    have r1 := S1.cell (i := 0) rfl (o := 1) rfl
    have q0 := S1.cell (i := 1) rfl (o := 0) rfl
    have q1 := S1.cell (i := 1) rfl (o := 1) rfl
    have f0 := S1.frozen (i := 1) rfl 0
    have f1 := S1.frozen (i := 1) rfl 1
    have hB := Lib.hid (((S1.store (i := 1) rfl 0 (.int .i64 p)).store (i := 1) rfl 1 (.int .i64 vars)).below)
    clear S0 S1
    go_wp2_with fail
    exact bodyPost_ret (v := .tuple #[.agg #[.int .i64 p, .int .i64 vars], .slice none 0 0, .bool false]) (by simp [results, Try.results33, go_sem, q0, q1]) rfl ⟨rfl, hB.out⟩
  obtain ⟨hp0, hp1, hv0, hv1⟩ := primeB_facts hp
  have ht : termsB p vars xs = false := by unfold polyB at hq; rwa [hp, Bool.true_and] at hq
  clear hq
  go_enter Try.func33, Try.ntmps33
  go_wp2_with fail
  refine (ringOf_any _ _ _).mono ?_
  rw [hp]
  rintro e w1 ⟨rfl, hb1⟩
  have S1 := (S0.out.grow hb1).alloc_box #[.int .i64 p, .int .i64 vars] 63
  have r0 := S1.cell (i := 0) rfl (o := 0) rfl
  have r1 := S1.cell (i := 0) rfl (o := 1) rfl
  have hA1 := (S1.below.cell (p := ⟨A, 0, none⟩) (World.block_lt_of_cell? _ _ hA)).trans hA
  have hB1 := S1.below
  replace S1 := Lib.hid S1
  clear S0
  go_wp2_with fail
  refine wp_loop_rounds 2 ?_
  rw [rounds_succ]
  go_wp2_with fail
  refine (ringIs_any p vars _ xs F _ (Ty.row_grow hxH.out hB1) hp0 hp1 hv0 hv1).mono ?_
  rw [ht]
  rintro e w2 ⟨rfl, hb2⟩
  have S2 := S1.out.grow hb2
  clear r0 r1
  have r0 := S2.cell (i := 0) rfl (o := 0) rfl
  have r1 := S2.cell (i := 0) rfl (o := 1) rfl
  have q0 := S2.cell (i := 1) rfl (o := 0) rfl
  have q1 := S2.cell (i := 1) rfl (o := 1) rfl
  have f0 := S2.frozen (i := 1) rfl 0
  have f1 := S2.frozen (i := 1) rfl 1
  have hB := Lib.hid (((S2.store (i := 1) rfl 0 (.int .i64 p)).store (i := 1) rfl 1 (.int .i64 vars)).below)
  clear S1 S2
  go_wp2_with fail
  exact bodyPost_ret (v := .tuple #[.agg #[.int .i64 p, .int .i64 vars], .slice none 0 0, .bool false]) (by simp [results, Try.results33, go_sem, q0, q1]) rfl ⟨rfl, hB.out⟩

theorem owns_one {w : World} {e : TypeId} {v u : Value} (h : w.ownsRow 0 e 1 v 1 [u]) : ∃ g cap, v = .slice (some ⟨g, 0, none⟩) 1 cap ∧ w.cell? ⟨g, 0, none⟩ = some u := by
  obtain ⟨_, ⟨_, h0⟩ | ⟨g, cap, cur, rfl, _, hh, hn, _, _, ht⟩⟩ := h
  · cases h0
  · refine ⟨g, cap, rfl, ?_⟩
    have h2 : (cur.toList.take (1 * 1))[0]? = some u := by rw [ht]; rfl
    rw [List.getElem?_take, if_pos (by decide)] at h2
    simp only [World.cell?, hh]
    simpa using h2

set_option maxRecDepth 100000 in
set_option maxHeartbeats 2000000 in
theorem polys_yes (p vars : Int) (v : Value) (xs : List (Int × Int)) (F : List Nat) (A : Nat) (w : World) (hx : tmTy.row false w v xs F) (hA : w.cell? ⟨A, 0, none⟩ = some v) (hq : polyB p vars xs = true) :
    Calls Try.prog 33 #[.int .i64 p, .int .i64 vars, .slice (some ⟨A, 0, none⟩) 1 1] w (PolysYes p vars (denseL p vars xs) w) := by
  obtain ⟨i0, hi, hz0, hz1, hz2⟩ := info_parts infoDense
  obtain ⟨a, c, rfl, _, _⟩ := Ty.row_len hx
  have hxH := Lib.hid hx
  have S0 := Lib.hid ((Sp.start w).alloc_box #[.int .i64 0, .int .i64 0] 63)
  have hp : primeB p vars = true := by unfold polyB at hq; rw [Bool.and_eq_true] at hq; exact hq.1
  have ht : termsB p vars xs = true := by unfold polyB at hq; rw [Bool.and_eq_true] at hq; exact hq.2
  obtain ⟨hp0, hp1, hv0, hv1⟩ := primeB_facts hp
  clear hq
  go_enter Try.func33, Try.ntmps33
  go_wp2_with fail
  refine (ringOf_any _ _ _).mono ?_
  rw [hp]
  rintro e w1 ⟨rfl, hb1⟩
  have S1 := (S0.out.grow hb1).alloc_box #[.int .i64 p, .int .i64 vars] 63
  have r0 := S1.cell (i := 0) rfl (o := 0) rfl
  have r1 := S1.cell (i := 0) rfl (o := 1) rfl
  have hA1 := (S1.below.cell (p := ⟨A, 0, none⟩) (World.block_lt_of_cell? _ _ hA)).trans hA
  have hB1 := S1.below
  replace S1 := Lib.hid S1
  clear S0
  go_wp2_with fail
  refine wp_loop_rounds 2 ?_
  rw [rounds_succ]
  go_wp2_with fail
  refine (ringIs_any p vars _ xs F _ (Ty.row_grow hxH.out hB1) hp0 hp1 hv0 hv1).mono ?_
  rw [ht]
  rintro e w2 ⟨rfl, hb2⟩
  have S2 := S1.out.grow hb2
  clear r0 r1
  have r0 := S2.cell (i := 0) rfl (o := 0) rfl
  have r1 := S2.cell (i := 0) rfl (o := 1) rfl
  have hB2 := S2.below
  replace S2 := Lib.hid S2
  clear S1 hB1
  go_wp2_with fail
  refine (ringDense_any p vars _ xs F _ (Ty.row_grow hxH.out hB2) hp0 hp1 hv0 hv1 ht).mono ?_
  rintro e w3 ⟨u, F3, rfl, hr3, hn3, hF3, hb3⟩
  obtain ⟨ua, uc, rfl, _, _⟩ := Ty.row_len hr3
  have S3 := S2.out.row_new hb3 hr3 hn3 hF3
  clear S2 hr3 hn3 hF3 hb3 r0 r1 hB2
  have S4 := Lib.hid (S3.alloc (.cells #[.slice ua (denseL p vars xs).length uc] 67))
  have hlt3 : w.heap.size < w3.heap.size := (S3.box (i := 2) rfl).2.1
  clear S3
  go_wp2_with (at_builtin; refine wpList_append_src rfl _ _ rfl Try.underlying64 hi hz0 hz1 hz2 rfl (by decide) _ _ _ rfl (World.ownsRow_nil _ _ _ _) (some ⟨w3.heap.size, 0, none⟩) 1 1 [.slice ua (denseL p vars xs).length uc] rfl (Src.one (by simp [go_sem])) (by simp [Value.oneCell']) (by unfold maxLen; decide) (by decide) ?_)
  intro v' w5 hown5 hg5 hat5
  have hb5 : Below (w3.alloc (.cells #[.slice ua (denseL p vars xs).length uc] 67)).heap.size (w3.alloc (.cells #[.slice ua (denseL p vars xs).length uc] 67)) w5 := (bb _).grown hg5 (Nat.le_refl _) (fun k hk => by cases hk)
  have S5 := S4.out.grow hb5
  obtain ⟨g, cap, rfl, hgc⟩ := owns_one (show w5.ownsRow 0 67 1 v' 1 [_] from hown5)
  have r0 := S5.cell (i := 1) rfl (o := 0) rfl
  have r1 := S5.cell (i := 1) rfl (o := 1) rfl
  have q0 := S5.cell (i := 2) rfl (o := 0) rfl
  have q1 := S5.cell (i := 2) rfl (o := 1) rfl
  have f0 := S5.frozen (i := 2) rfl 0
  have f1 := S5.frozen (i := 2) rfl 1
  have T5 := (S5.store (i := 2) rfl 0 (.int .i64 p)).store (i := 2) rfl 1 (.int .i64 vars)
  obtain ⟨G, hG⟩ := T5.row_at (i := 0) rfl
  have hB := Lib.hid T5.below
  have hG' := Lib.hid (Ty.row_down hG)
  have hgW : g = w3.heap.size + 1 := by
    rcases hat5 with h | h
    · simp [Value.ownBlock] at h
    · simpa [Value.ownBlock] using h
  have hgc2 := Lib.hid ((World.cell?_setCell_other (w5.setCell ⟨w.heap.size, 0, none⟩ (.int .i64 p)) ⟨w.heap.size, 1, none⟩ ⟨g, 0, none⟩ (.int .i64 vars) (by simp only [ne_eq, Addr.mk.injEq]; omega)).trans ((World.cell?_setCell_other w5 ⟨w.heap.size, 0, none⟩ ⟨g, 0, none⟩ (.int .i64 p) (by simp only [ne_eq, Addr.mk.injEq]; omega)).trans hgc))
  replace hgW := Lib.hid hgW
  clear S4 S5 T5 hown5 hg5 hb5 hG hgc hat5
  go_wp2_with fail
  rw [rounds_succ]
  go_wp2_with fail
  exact bodyPost_ret (v := .tuple #[.agg #[.int .i64 p, .int .i64 vars], .slice (some ⟨g, 0, none⟩) 1 cap, .bool true]) (by simp [results, Try.results33, go_sem, q0, q1]) rfl ⟨g, cap, _, G, rfl, hgc2.out, hG'.out, hB.out⟩

set_option maxRecDepth 100000 in
set_option maxHeartbeats 2000000 in
theorem implPolyDegree_any (p vars : Int) (v : Value) (xs : List (Int × Int)) (F : List Nat) (w : World) (hx : tmTy.row false w v xs F) :
    Calls Try.prog 10 #[.int .i64 p, .int .i64 vars, v] w fun e w' => e = .returned (.tuple #[.int .i64 (degB p vars xs).1, .bool (degB p vars xs).2]) ∧ Below w.heap.size w w' := by
  obtain ⟨a, c, rfl, _, _⟩ := Ty.row_len hx
  have hx1 := Ty.row_grow hx (bal (bb w) (.cells #[.slice a xs.length c] 26))
  have hA : (w.alloc (.cells #[.slice a xs.length c] 26)).cell? ⟨w.heap.size, 0, none⟩ = some (.slice a xs.length c) := by simp
  cases hq : polyB p vars xs
  · have hR : Hid (degB p vars xs = (0, false)) := by unfold Hid degB; rw [hq]; rfl
    have hC := Lib.hid (polys_no p vars _ xs F w.heap.size _ hx1 hA hq)
    clear hx hx1 hA hq
    go_enter Try.func10, Try.ntmps10
    go_wp2_with fail
    refine hC.out.mono ?_
    rintro e w1 ⟨rfl, hb1⟩
    have hB1 : Below w.heap.size w w1 := btr (bal (bb w) _) hb1
    clear hb1 hC
    go_wp2_with fail
    go_ret2
    exact ⟨by rw [hR.out]; rfl, (by repeat (first | exact bb _ | assumption | refine bal ?_ _ | refine bdr ?_ | refine bdn ?_ _ | refine bst ?_ (by simp <;> omega) _ | refine btr ?_ (by assumption)))⟩
  · have hR : Hid (degB p vars xs = (degS xs, true)) := by unfold Hid degB; rw [hq]; rfl
    have hC := Lib.hid (polys_yes p vars _ xs F w.heap.size _ hx1 hA hq)
    have hp : primeB p vars = true := by unfold polyB at hq; rw [Bool.and_eq_true] at hq; exact hq.1
    have ht : termsB p vars xs = true := by unfold polyB at hq; rw [Bool.and_eq_true] at hq; exact hq.2
    have hE := Lib.hid (deg_eq (primeB_facts hp).1 ht)
    have hl := Lib.hid (denseL_len p vars xs)
    have hn := Lib.hid (monoN_le (primeB_facts hp).2.2.2)
    clear hx hx1 hA hq hp ht
    go_enter Try.func10, Try.ntmps10
    go_wp2_with fail
    refine hC.out.mono ?_
    rintro e w1 ⟨g, cap, u, G, rfl, hg, hr, hb1⟩
    have hB1 : Below w.heap.size w w1 := btr (bal (bb w) _) hb1
    have hg' := cell_alloc hg (.cells #[.int .i64 p, .int .i64 vars] 63)
    have hr' := Lib.hid (Ty.row_grow hr (bal (bb _) (.cells #[.int .i64 p, .int .i64 vars] 63)))
    clear hb1 hC hg hr
    obtain ⟨ua, uc, rfl, _, _⟩ := Ty.row_len hr'.out
    go_wp2_with fail
    refine (degree_any _ (denseL p vars xs) G _ hr'.out (by rw [hl.out]; exact hn.out)).mono ?_
    rw [hl.out, hE.out]
    rintro e w2 ⟨rfl, hb2⟩
    have hB2 : Below w.heap.size w w2 := btr (bal hB1 _) hb2
    go_wp2_with fail
    go_ret2
    exact ⟨by rw [hR.out]; rfl, hB2⟩
end Go.Proofs.Ytebhkfhdjdgokaa
