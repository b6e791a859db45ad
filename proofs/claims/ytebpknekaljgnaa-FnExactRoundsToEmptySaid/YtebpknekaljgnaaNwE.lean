/- Contracts: a clause put into a list, in the reference. Printed by gen_insert.py. -/
import Derived.Test.YtebpknekaljgnaaNwD
namespace Go.Proofs.Ytebpknekaljgnaa
open Go.RowKit

theorem drew_size (w : World) : w.drew.heap.size = w.heap.size := rfl
theorem one_slices {ks : List (Value × List Int)} (h : ∀ q ∈ ks, ∃ a n c, q.1 = .slice a n c) : ∀ u ∈ ks.map Prod.fst, u.oneCell' = true := by
  intro u hu
  obtain ⟨q, hq, rfl⟩ := List.mem_map.1 hu
  obtain ⟨a, n, c, e⟩ := h q hq
  rw [e]; rfl

/-- The list with a clause put in. -/
def InsPost (w : World) (ks : List (Value × List Int)) (e : Ending) (w' : World) : Prop := ∃ v, e = .returned v ∧ w'.ownsRow w.heap.size 25 1 v ks.length (ks.map Prod.fst) ∧ Below w.heap.size w w'

set_option maxRecDepth 100000 in
set_option maxHeartbeats 4000000 in
theorem l2Insert_old (v : Value) (ua : Option Addr) (uc : Nat) (L : List (List Int)) (c : List Int) (F G : List Nat) (w : World) (hx : (Ty.slice Ty.int).row false w v L F) (hy : Ty.int.row false w (.slice ua c.length uc) c G) (mL : ∀ x ∈ L, Mild x) (mc : Mild c) (hl : L.length ≤ 1000000000) (hin : L[placeB L c]? = some c) :
    Calls Try.prog 52 #[v, .slice ua c.length uc] w fun e w' => e = .returned v ∧ Below w.heap.size w w' := by
  have hlt : placeB L c < L.length := by
    rcases Nat.lt_or_ge (placeB L c) L.length with h | h
    · exact h
    · rw [List.getElem?_eq_none h] at hin; cases hin
  rw [List.getElem?_eq_getElem hlt] at hin
  have hin := Option.some.inj hin
  obtain ⟨a, cap, rfl, hx1, hx2, hx3⟩ := row_slices hx
  rcases hx3 with ⟨rfl, rfl⟩ | ⟨hxn, b, off, rfl, _, hxc⟩
  · exact absurd hlt (by simp)
  obtain ⟨x, Fk, hc, hr, _⟩ := hxc _ hlt
  obtain ⟨xa, xc, rfl, _, _⟩ := Ty.row_len hr
  have hlt' : (placeB L c : Int) < (L.length : Int) := by omega
  have hq : decide (L[placeB L c] = c) = true := by simpa using hin
  have hpl := l2Place_any _ _ L c F G w hx hy mL mc hl
  replace hpl := Lib.hid hpl
  replace hin := Lib.hid hin
  generalize placeB L c = p at *
  go_enter Try.func52, Try.ntmps52
  go_wp2_with fail
  refine hpl.out.mono ?_
  rintro e w1 ⟨rfl, hb1⟩
  have k0 := (hc.keep (hb1.block b hc.lt)).1
  go_wp2_with (go_at_call 51; (with_reducible refine (l1Same_at (Ty.row_grow hr hb1) (Ty.row_grow hy hb1) hq).mono ?_); rintro e w2 ⟨rfl, hb2⟩)
  go_ret
  exact ⟨rfl, btr hb1 hb2⟩

set_option maxRecDepth 100000 in
set_option maxHeartbeats 8000000 in
theorem l2Insert_new (v : Value) (ua : Option Addr) (uc : Nat) (ks : List (Value × List Int)) (c : List Int) (F G : List Nat) (w : World) (hown : w.ownsRow 0 25 1 v ks.length (ks.map Prod.fst)) (hks : ∀ q ∈ ks, ∃ a n c, q.1 = .slice a n c)
    (hx : (Ty.slice Ty.int).row false w v (ks.map Prod.snd) F) (hy : Ty.int.row false w (.slice ua c.length uc) c G) (mL : ∀ x ∈ ks.map Prod.snd, Mild x) (mc : Mild c) (hl : ks.length ≤ 1000000) (hout : (ks.map Prod.snd)[placeB (ks.map Prod.snd) c]? ≠ some c) :
    Calls Try.prog 52 #[v, .slice ua c.length uc] w (InsPost w (insP ks (.slice ua c.length uc, c))) := by
  obtain ⟨i0, hi, hz0, hz1, hz2⟩ := info_parts infoRow
  obtain ⟨P, hP⟩ : ∃ P, P = placeB (ks.map Prod.snd) c := ⟨_, rfl⟩
  have hPle : P ≤ ks.length := by have := placeB_le (ks.map Prod.snd) c; rw [List.length_map] at this; omega
  have hpl := l2Place_any _ _ (ks.map Prod.snd) c F G w hx hy mL mc (by rw [List.length_map]; omega)
  rw [← hP] at hpl hout
  have hIF : insP ks (.slice ua c.length uc, c) = ks.take P ++ (.slice ua c.length uc, c) :: ks.drop P := by unfold insP; rw [hP]
  rw [hIF]
  have hnew : Hid (∀ v' w', w'.ownsRow w.heap.size 25 1 v' (P + 1 + (ks.length - P)) (((ks.map Prod.fst).take P ++ [.slice ua c.length uc]) ++ (ks.map Prod.fst).drop P) → Below w.heap.size w w' → InsPost w (ks.take P ++ (.slice ua c.length uc, c) :: ks.drop P) (.returned v') w') := by
    intro v' w' h1 h2
    refine ⟨v', rfl, ?_, h2⟩
    have e : (ks.take P ++ (.slice ua c.length uc, c) :: ks.drop P).length = P + 1 + (ks.length - P) := by rw [List.length_append, List.length_cons, List.length_take, List.length_drop]; omega
    rw [e]
    simpa using h1
  have hone := one_slices hks
  obtain ⟨A, cap, rfl, hcap, hsrc, hsrcF⟩ := own_src hown
  have sTo := Lib.hid (hsrc.to (k := P) hPle)
  have sFr := Lib.hid (hsrcF P hPle)
  have aTo := Lib.hid (show ∀ u ∈ (ks.map Prod.fst).take (P * 1), u.oneCell' = true from fun u hu => hone u (List.mem_of_mem_take hu))
  have aFr := Lib.hid (show ∀ u ∈ (ks.map Prod.fst).drop P, u.oneCell' = true from fun u hu => hone u (List.mem_of_mem_drop hu))
  rw [Nat.mul_one] at sTo aTo
  have q1 : P ≤ cap := by omega
  have hpre : ((P : Int) < (ks.length : Int) ∧ ∃ x cx Fk, (∃ b off, A = some ⟨b, off, none⟩ ∧ w.cell? ⟨b, off + P, none⟩ = some (.slice x cx.length Fk)) ∧ (∃ H, Ty.int.row false w (.slice x cx.length Fk) cx H) ∧ decide (cx = c) = false) ∨ ¬ (P : Int) < (ks.length : Int) := by
    by_cases hlt : P < ks.length
    · refine .inl ⟨by omega, ?_⟩
      obtain ⟨a, cap', e, _, _, ⟨h, _⟩ | ⟨_, b, off, rfl, _, hxc⟩⟩ := row_slices hx
      · rw [List.map_eq_nil_iff] at h; subst h; simp at hlt
      simp only [Value.slice.injEq] at e
      obtain ⟨rfl, _⟩ := e
      obtain ⟨x, Fk, hc, hr, _⟩ := hxc P (by rw [List.length_map]; exact hlt)
      obtain ⟨xa, xc, rfl, _, _⟩ := Ty.row_len hr
      refine ⟨xa, _, xc, ⟨b, off, rfl, hc.1⟩, ⟨Fk, hr⟩, ?_⟩
      rw [List.getElem?_eq_getElem (by rw [List.length_map]; exact hlt)] at hout
      rw [decide_eq_false_iff_not]
      exact fun e => hout (by rw [e])
    · exact .inr (by omega)
  have hy' := Lib.hid hy
  replace hpl := Lib.hid hpl
  replace hP := Lib.hid hP
  replace hIF := Lib.hid hIF
  clear hx hy hsrc hsrcF hone mL mc hout hown hks hP hIF
  rcases hpre with ⟨hlt, xa, cx, xc, ⟨b, off, rfl, k0⟩, ⟨H, hr⟩, hq⟩ | hlt
  · go_enter Try.func52, Try.ntmps52
    go_wp2_with fail
    refine hpl.out.mono ?_
    rintro e w1 ⟨rfl, hb1⟩
    have k1 := (hb1.cell (World.block_lt_of_cell? _ _ k0)).trans k0
    go_wp2_with (go_at_call 51; (with_reducible refine (l1Same_at (Ty.row_grow hr hb1) (Ty.row_grow hy'.out hb1) hq).mono ?_); rintro e w2 ⟨rfl, hb2⟩)
    have S0 := Lib.hid (((Sp.start w).grow hb1).grow hb2).drew
    clear k0 k1 hr
    refine wp_region_tail_lit (S := (fun _ => True)) 11 [false, false, false, false, false, false, false, false, false, false, false, false, false] (by kernel_rfl) (by kernel_rfl) (by kernel_rfl) ?_ ?_
    · trivial
    intro hS
    (refine walkT_take (i := 1) (v := ?_) rfl (by kernel_rfl) (by decide) (by kernel_rfl) (by kernel_rfl) (fun _ _ _ h => h) (Or.inl ⟨by rfl, ?_⟩) (by assumption) ?_; rotate_left; (focus (intro w hSw; (try dsimp only at hSw); go_simp; (try with_reducible rfl); done)); (try simp only [put_rules]))
    (refine walkT_take (i := 2) (v := ?_) rfl (by kernel_rfl) (by decide) (by kernel_rfl) (by kernel_rfl) (fun _ _ _ h => h) (Or.inl ⟨by rfl, ?_⟩) (by assumption) ?_; rotate_left; (focus (intro w hSw; (try dsimp only at hSw); go_simp; (try with_reducible rfl); done)); (try simp only [put_rules]))
    (refine walkT_take (i := 3) (v := .slice _ P cap) rfl (by kernel_rfl) (by decide) (by kernel_rfl) (by kernel_rfl) (fun _ _ _ h => h) (Or.inl ⟨by rfl, fun _ _ => exec_slice_to rfl rfl rfl Try.underlying22 hi q1⟩) (by assumption) ?_; (try simp only [put_rules]))
    (refine walkT_take (i := 5) (v := ?_) rfl (by kernel_rfl) (by decide) (by kernel_rfl) (by kernel_rfl) (fun _ _ _ h => h) (Or.inl ⟨by rfl, ?_⟩) (by assumption) ?_; rotate_left; (focus (intro w hSw; (try dsimp only at hSw); go_simp; (try with_reducible rfl); done)); (try simp only [put_rules]))
    (refine walkT_take (i := 8) (v := ?_) rfl (by kernel_rfl) (by decide) (by kernel_rfl) (by kernel_rfl) (fun _ _ _ h => h) (Or.inl ⟨by rfl, ?_⟩) (by assumption) ?_; rotate_left; (focus (intro w hSw; (try dsimp only at hSw); go_simp; (try with_reducible rfl); done)); (try simp only [put_rules]))
    (refine walkT_take (i := 9) (v := ?_) rfl (by kernel_rfl) (by decide) (by kernel_rfl) (by kernel_rfl) (fun _ _ _ h => h) (Or.inl ⟨by rfl, ?_⟩) (by assumption) ?_; rotate_left; (focus (intro w hSw; (try dsimp only at hSw); go_simp; (try with_reducible rfl); done)); (try simp only [put_rules]))
    (refine walkT_take (i := 10) (v := .slice (cutA _ cap P 1) (ks.length - P) (cap - P)) rfl (by kernel_rfl) (by decide) (by kernel_rfl) (by kernel_rfl) (fun _ _ _ h => h) (Or.inl ⟨by rfl, fun _ _ => exec_slice_from rfl rfl rfl Try.underlying22 hi hz1 hPle⟩) (by assumption) ?_; (try simp only [put_rules]))
    (refine walkT_ready (rs := [0, 6]) (by kernel_rfl) (by simp) (by decide) ?_; refine AllT.cons rfl (fun K hK => ?_) (AllT.cons rfl (fun K hK => ?_) AllT.nil))
    · skip
      go_simp
      have S1 := S0.out.own_made 25 1
      (try simp only [drew_size] at S1)
      replace S1 := Lib.hid S1
      clear S0
      refine hK.out _ _ trivial (fun _ => ?_)
      clear hK
      (try simp only [put_rules])
      (refine walkT_ready (rs := [4, 6]) (by kernel_rfl) (by simp) (by decide) ?_; refine AllT.cons rfl (fun K hK => ?_) (AllT.cons rfl (fun K hK => ?_) AllT.nil))
      · skip
        (refine step_append_src rfl _ _ rfl Try.underlying22 hi hz0 hz1 hz2 rfl (by decide) _ 0 _ rfl (S1.out.own (i := 0) rfl) _ P cap _ rfl (sTo.out.grow S1.out.below) aTo.out (by unfold maxLen; omega) (by omega) ?_; intro vE wE hownE hgE hatE)
        have S2 := S1.out.own_push (i := 0) rfl (bb _) hownE hgE hatE
        obtain ⟨aE, cE, rfl⟩ := owns_form hownE
        rw [Nat.zero_add, List.nil_append] at S2
        clear hownE hgE hatE
        simp only [Nat.zero_add]
        replace S2 := Lib.hid S2
        clear S1
        refine hK.out _ _ trivial (fun _ => ?_)
        clear hK
        (try simp only [put_rules])
        (refine walkT_ready (rs := [6]) (by kernel_rfl) (by simp) (by decide) ?_; refine AllT.cons rfl (fun K hK => ?_) AllT.nil)
        go_simp
        have S3 := S2.out.alloc_box #[.slice ua c.length uc] 25
        (try simp only [World.size_alloc, drew_size] at S3)
        replace S3 := Lib.hid S3
        clear S2
        refine hK.out _ _ trivial (fun _ => ?_)
        clear hK
        (try simp only [put_rules])
        (refine walkT_ready (rs := [7]) (by kernel_rfl) (by simp) (by decide) ?_; refine AllT.cons rfl (fun K hK => ?_) AllT.nil)
        have kB := S3.out.cell (i := 0) rfl (o := 0) rfl
        (refine step_append_src rfl _ _ rfl Try.underlying22 hi hz0 hz1 hz2 rfl (by decide) _ P _ rfl (S3.out.own (i := 1) rfl) _ 1 1 [.slice ua c.length uc] rfl (Src.one kB) (by simp [Value.oneCell']) (by unfold maxLen; omega) (by omega) ?_; intro vH wH hownH hgH hatH)
        have S4 := S3.out.own_push (i := 1) rfl (bb _) hownH hgH hatH
        obtain ⟨aH, cH, rfl⟩ := owns_form hownH
        clear hownH hgH hatH kB
        replace S4 := Lib.hid S4
        clear S3
        refine hK.out _ _ trivial (fun _ => ?_)
        clear hK
        (try simp only [put_rules])
        (refine walkT_done (by kernel_rfl) ?_)
        simp only [List.drop_succ_cons, List.drop_zero]
        (refine wpList_append_src rfl _ _ rfl Try.underlying22 hi hz0 hz1 hz2 rfl (by decide) _ (P + 1) _ rfl (S4.out.own (i := 1) rfl) _ (ks.length - P) _ _ rfl (sFr.out.grow S4.out.below) aFr.out (by unfold maxLen; omega) (by omega) ?_; intro v5 w5 hown5 hg5 hat5)
        have S9 := S4.out.own_push (i := 1) rfl (bb _) hown5 hg5 hat5
        have ho9 := S9.owns_end (i := 1) rfl
        have hB9 := S9.below
        obtain ⟨a5, c5, rfl⟩ := owns_form hown5
        have hf := Lib.hid (hnew.out _ _ ho9 hB9)
        clear S9 ho9 hB9 hown5 hg5 hat5 S4
        go_wp2_with fail
        go_ret
        exact hf.out
      · skip
        go_simp
        have S2 := S1.out.alloc_box #[.slice ua c.length uc] 25
        (try simp only [World.size_alloc, drew_size] at S2)
        replace S2 := Lib.hid S2
        clear S1
        refine hK.out _ _ trivial (fun _ => ?_)
        clear hK
        (try simp only [put_rules])
        (refine walkT_ready (rs := [4]) (by kernel_rfl) (by simp) (by decide) ?_; refine AllT.cons rfl (fun K hK => ?_) AllT.nil)
        (refine step_append_src rfl _ _ rfl Try.underlying22 hi hz0 hz1 hz2 rfl (by decide) _ 0 _ rfl (S2.out.own (i := 1) rfl) _ P cap _ rfl (sTo.out.grow S2.out.below) aTo.out (by unfold maxLen; omega) (by omega) ?_; intro vE wE hownE hgE hatE)
        have S3 := S2.out.own_push (i := 1) rfl (bb _) hownE hgE hatE
        obtain ⟨aE, cE, rfl⟩ := owns_form hownE
        rw [Nat.zero_add, List.nil_append] at S3
        clear hownE hgE hatE
        simp only [Nat.zero_add]
        replace S3 := Lib.hid S3
        clear S2
        refine hK.out _ _ trivial (fun _ => ?_)
        clear hK
        (try simp only [put_rules])
        (refine walkT_ready (rs := [7]) (by kernel_rfl) (by simp) (by decide) ?_; refine AllT.cons rfl (fun K hK => ?_) AllT.nil)
        have kB := S3.out.cell (i := 0) rfl (o := 0) rfl
        (refine step_append_src rfl _ _ rfl Try.underlying22 hi hz0 hz1 hz2 rfl (by decide) _ P _ rfl (S3.out.own (i := 1) rfl) _ 1 1 [.slice ua c.length uc] rfl (Src.one kB) (by simp [Value.oneCell']) (by unfold maxLen; omega) (by omega) ?_; intro vH wH hownH hgH hatH)
        have S4 := S3.out.own_push (i := 1) rfl (bb _) hownH hgH hatH
        obtain ⟨aH, cH, rfl⟩ := owns_form hownH
        clear hownH hgH hatH kB
        replace S4 := Lib.hid S4
        clear S3
        refine hK.out _ _ trivial (fun _ => ?_)
        clear hK
        (try simp only [put_rules])
        (refine walkT_done (by kernel_rfl) ?_)
        simp only [List.drop_succ_cons, List.drop_zero]
        (refine wpList_append_src rfl _ _ rfl Try.underlying22 hi hz0 hz1 hz2 rfl (by decide) _ (P + 1) _ rfl (S4.out.own (i := 1) rfl) _ (ks.length - P) _ _ rfl (sFr.out.grow S4.out.below) aFr.out (by unfold maxLen; omega) (by omega) ?_; intro v5 w5 hown5 hg5 hat5)
        have S9 := S4.out.own_push (i := 1) rfl (bb _) hown5 hg5 hat5
        have ho9 := S9.owns_end (i := 1) rfl
        have hB9 := S9.below
        obtain ⟨a5, c5, rfl⟩ := owns_form hown5
        have hf := Lib.hid (hnew.out _ _ ho9 hB9)
        clear S9 ho9 hB9 hown5 hg5 hat5 S4
        go_wp2_with fail
        go_ret
        exact hf.out
    · skip
      go_simp
      have S1 := S0.out.alloc_box #[.slice ua c.length uc] 25
      (try simp only [drew_size] at S1)
      replace S1 := Lib.hid S1
      clear S0
      refine hK.out _ _ trivial (fun _ => ?_)
      clear hK
      (try simp only [put_rules])
      (refine walkT_ready (rs := [0]) (by kernel_rfl) (by simp) (by decide) ?_; refine AllT.cons rfl (fun K hK => ?_) AllT.nil)
      go_simp
      have S2 := S1.out.own_made 25 1
      (try simp only [World.size_alloc, drew_size] at S2)
      replace S2 := Lib.hid S2
      clear S1
      refine hK.out _ _ trivial (fun _ => ?_)
      clear hK
      (try simp only [put_rules])
      (refine walkT_ready (rs := [4]) (by kernel_rfl) (by simp) (by decide) ?_; refine AllT.cons rfl (fun K hK => ?_) AllT.nil)
      (refine step_append_src rfl _ _ rfl Try.underlying22 hi hz0 hz1 hz2 rfl (by decide) _ 0 _ rfl (S2.out.own (i := 0) rfl) _ P cap _ rfl (sTo.out.grow S2.out.below) aTo.out (by unfold maxLen; omega) (by omega) ?_; intro vE wE hownE hgE hatE)
      have S3 := S2.out.own_push (i := 0) rfl (bb _) hownE hgE hatE
      obtain ⟨aE, cE, rfl⟩ := owns_form hownE
      rw [Nat.zero_add, List.nil_append] at S3
      clear hownE hgE hatE
      simp only [Nat.zero_add]
      replace S3 := Lib.hid S3
      clear S2
      refine hK.out _ _ trivial (fun _ => ?_)
      clear hK
      (try simp only [put_rules])
      (refine walkT_ready (rs := [7]) (by kernel_rfl) (by simp) (by decide) ?_; refine AllT.cons rfl (fun K hK => ?_) AllT.nil)
      have kB := S3.out.cell (i := 1) rfl (o := 0) rfl
      (refine step_append_src rfl _ _ rfl Try.underlying22 hi hz0 hz1 hz2 rfl (by decide) _ P _ rfl (S3.out.own (i := 0) rfl) _ 1 1 [.slice ua c.length uc] rfl (Src.one kB) (by simp [Value.oneCell']) (by unfold maxLen; omega) (by omega) ?_; intro vH wH hownH hgH hatH)
      have S4 := S3.out.own_push (i := 0) rfl (bb _) hownH hgH hatH
      obtain ⟨aH, cH, rfl⟩ := owns_form hownH
      clear hownH hgH hatH kB
      replace S4 := Lib.hid S4
      clear S3
      refine hK.out _ _ trivial (fun _ => ?_)
      clear hK
      (try simp only [put_rules])
      (refine walkT_done (by kernel_rfl) ?_)
      simp only [List.drop_succ_cons, List.drop_zero]
      (refine wpList_append_src rfl _ _ rfl Try.underlying22 hi hz0 hz1 hz2 rfl (by decide) _ (P + 1) _ rfl (S4.out.own (i := 0) rfl) _ (ks.length - P) _ _ rfl (sFr.out.grow S4.out.below) aFr.out (by unfold maxLen; omega) (by omega) ?_; intro v5 w5 hown5 hg5 hat5)
      have S9 := S4.out.own_push (i := 0) rfl (bb _) hown5 hg5 hat5
      have ho9 := S9.owns_end (i := 0) rfl
      have hB9 := S9.below
      obtain ⟨a5, c5, rfl⟩ := owns_form hown5
      have hf := Lib.hid (hnew.out _ _ ho9 hB9)
      clear S9 ho9 hB9 hown5 hg5 hat5 S4
      go_wp2_with fail
      go_ret
      exact hf.out
  · go_enter Try.func52, Try.ntmps52
    go_wp2_with fail
    refine hpl.out.mono ?_
    rintro e w1 ⟨rfl, hb1⟩
    have S0 := Lib.hid ((Sp.start w).grow hb1).drew
    go_wp2_with fail
    refine wp_region_tail_lit (S := (fun _ => True)) 11 [false, false, false, false, false, false, false, false, false, false, false, false, false] (by kernel_rfl) (by kernel_rfl) (by kernel_rfl) ?_ ?_
    · trivial
    intro hS
    (refine walkT_take (i := 1) (v := ?_) rfl (by kernel_rfl) (by decide) (by kernel_rfl) (by kernel_rfl) (fun _ _ _ h => h) (Or.inl ⟨by rfl, ?_⟩) (by assumption) ?_; rotate_left; (focus (intro w hSw; (try dsimp only at hSw); go_simp; (try with_reducible rfl); done)); (try simp only [put_rules]))
    (refine walkT_take (i := 2) (v := ?_) rfl (by kernel_rfl) (by decide) (by kernel_rfl) (by kernel_rfl) (fun _ _ _ h => h) (Or.inl ⟨by rfl, ?_⟩) (by assumption) ?_; rotate_left; (focus (intro w hSw; (try dsimp only at hSw); go_simp; (try with_reducible rfl); done)); (try simp only [put_rules]))
    (refine walkT_take (i := 3) (v := .slice _ P cap) rfl (by kernel_rfl) (by decide) (by kernel_rfl) (by kernel_rfl) (fun _ _ _ h => h) (Or.inl ⟨by rfl, fun _ _ => exec_slice_to rfl rfl rfl Try.underlying22 hi q1⟩) (by assumption) ?_; (try simp only [put_rules]))
    (refine walkT_take (i := 5) (v := ?_) rfl (by kernel_rfl) (by decide) (by kernel_rfl) (by kernel_rfl) (fun _ _ _ h => h) (Or.inl ⟨by rfl, ?_⟩) (by assumption) ?_; rotate_left; (focus (intro w hSw; (try dsimp only at hSw); go_simp; (try with_reducible rfl); done)); (try simp only [put_rules]))
    (refine walkT_take (i := 8) (v := ?_) rfl (by kernel_rfl) (by decide) (by kernel_rfl) (by kernel_rfl) (fun _ _ _ h => h) (Or.inl ⟨by rfl, ?_⟩) (by assumption) ?_; rotate_left; (focus (intro w hSw; (try dsimp only at hSw); go_simp; (try with_reducible rfl); done)); (try simp only [put_rules]))
    (refine walkT_take (i := 9) (v := ?_) rfl (by kernel_rfl) (by decide) (by kernel_rfl) (by kernel_rfl) (fun _ _ _ h => h) (Or.inl ⟨by rfl, ?_⟩) (by assumption) ?_; rotate_left; (focus (intro w hSw; (try dsimp only at hSw); go_simp; (try with_reducible rfl); done)); (try simp only [put_rules]))
    (refine walkT_take (i := 10) (v := .slice (cutA _ cap P 1) (ks.length - P) (cap - P)) rfl (by kernel_rfl) (by decide) (by kernel_rfl) (by kernel_rfl) (fun _ _ _ h => h) (Or.inl ⟨by rfl, fun _ _ => exec_slice_from rfl rfl rfl Try.underlying22 hi hz1 hPle⟩) (by assumption) ?_; (try simp only [put_rules]))
    (refine walkT_ready (rs := [0, 6]) (by kernel_rfl) (by simp) (by decide) ?_; refine AllT.cons rfl (fun K hK => ?_) (AllT.cons rfl (fun K hK => ?_) AllT.nil))
    · skip
      go_simp
      have S1 := S0.out.own_made 25 1
      (try simp only [drew_size] at S1)
      replace S1 := Lib.hid S1
      clear S0
      refine hK.out _ _ trivial (fun _ => ?_)
      clear hK
      (try simp only [put_rules])
      (refine walkT_ready (rs := [4, 6]) (by kernel_rfl) (by simp) (by decide) ?_; refine AllT.cons rfl (fun K hK => ?_) (AllT.cons rfl (fun K hK => ?_) AllT.nil))
      · skip
        (refine step_append_src rfl _ _ rfl Try.underlying22 hi hz0 hz1 hz2 rfl (by decide) _ 0 _ rfl (S1.out.own (i := 0) rfl) _ P cap _ rfl (sTo.out.grow S1.out.below) aTo.out (by unfold maxLen; omega) (by omega) ?_; intro vE wE hownE hgE hatE)
        have S2 := S1.out.own_push (i := 0) rfl (bb _) hownE hgE hatE
        obtain ⟨aE, cE, rfl⟩ := owns_form hownE
        rw [Nat.zero_add, List.nil_append] at S2
        clear hownE hgE hatE
        simp only [Nat.zero_add]
        replace S2 := Lib.hid S2
        clear S1
        refine hK.out _ _ trivial (fun _ => ?_)
        clear hK
        (try simp only [put_rules])
        (refine walkT_ready (rs := [6]) (by kernel_rfl) (by simp) (by decide) ?_; refine AllT.cons rfl (fun K hK => ?_) AllT.nil)
        go_simp
        have S3 := S2.out.alloc_box #[.slice ua c.length uc] 25
        (try simp only [World.size_alloc, drew_size] at S3)
        replace S3 := Lib.hid S3
        clear S2
        refine hK.out _ _ trivial (fun _ => ?_)
        clear hK
        (try simp only [put_rules])
        (refine walkT_ready (rs := [7]) (by kernel_rfl) (by simp) (by decide) ?_; refine AllT.cons rfl (fun K hK => ?_) AllT.nil)
        have kB := S3.out.cell (i := 0) rfl (o := 0) rfl
        (refine step_append_src rfl _ _ rfl Try.underlying22 hi hz0 hz1 hz2 rfl (by decide) _ P _ rfl (S3.out.own (i := 1) rfl) _ 1 1 [.slice ua c.length uc] rfl (Src.one kB) (by simp [Value.oneCell']) (by unfold maxLen; omega) (by omega) ?_; intro vH wH hownH hgH hatH)
        have S4 := S3.out.own_push (i := 1) rfl (bb _) hownH hgH hatH
        obtain ⟨aH, cH, rfl⟩ := owns_form hownH
        clear hownH hgH hatH kB
        replace S4 := Lib.hid S4
        clear S3
        refine hK.out _ _ trivial (fun _ => ?_)
        clear hK
        (try simp only [put_rules])
        (refine walkT_done (by kernel_rfl) ?_)
        simp only [List.drop_succ_cons, List.drop_zero]
        (refine wpList_append_src rfl _ _ rfl Try.underlying22 hi hz0 hz1 hz2 rfl (by decide) _ (P + 1) _ rfl (S4.out.own (i := 1) rfl) _ (ks.length - P) _ _ rfl (sFr.out.grow S4.out.below) aFr.out (by unfold maxLen; omega) (by omega) ?_; intro v5 w5 hown5 hg5 hat5)
        have S9 := S4.out.own_push (i := 1) rfl (bb _) hown5 hg5 hat5
        have ho9 := S9.owns_end (i := 1) rfl
        have hB9 := S9.below
        obtain ⟨a5, c5, rfl⟩ := owns_form hown5
        have hf := Lib.hid (hnew.out _ _ ho9 hB9)
        clear S9 ho9 hB9 hown5 hg5 hat5 S4
        go_wp2_with fail
        go_ret
        exact hf.out
      · skip
        go_simp
        have S2 := S1.out.alloc_box #[.slice ua c.length uc] 25
        (try simp only [World.size_alloc, drew_size] at S2)
        replace S2 := Lib.hid S2
        clear S1
        refine hK.out _ _ trivial (fun _ => ?_)
        clear hK
        (try simp only [put_rules])
        (refine walkT_ready (rs := [4]) (by kernel_rfl) (by simp) (by decide) ?_; refine AllT.cons rfl (fun K hK => ?_) AllT.nil)
        (refine step_append_src rfl _ _ rfl Try.underlying22 hi hz0 hz1 hz2 rfl (by decide) _ 0 _ rfl (S2.out.own (i := 1) rfl) _ P cap _ rfl (sTo.out.grow S2.out.below) aTo.out (by unfold maxLen; omega) (by omega) ?_; intro vE wE hownE hgE hatE)
        have S3 := S2.out.own_push (i := 1) rfl (bb _) hownE hgE hatE
        obtain ⟨aE, cE, rfl⟩ := owns_form hownE
        rw [Nat.zero_add, List.nil_append] at S3
        clear hownE hgE hatE
        simp only [Nat.zero_add]
        replace S3 := Lib.hid S3
        clear S2
        refine hK.out _ _ trivial (fun _ => ?_)
        clear hK
        (try simp only [put_rules])
        (refine walkT_ready (rs := [7]) (by kernel_rfl) (by simp) (by decide) ?_; refine AllT.cons rfl (fun K hK => ?_) AllT.nil)
        have kB := S3.out.cell (i := 0) rfl (o := 0) rfl
        (refine step_append_src rfl _ _ rfl Try.underlying22 hi hz0 hz1 hz2 rfl (by decide) _ P _ rfl (S3.out.own (i := 1) rfl) _ 1 1 [.slice ua c.length uc] rfl (Src.one kB) (by simp [Value.oneCell']) (by unfold maxLen; omega) (by omega) ?_; intro vH wH hownH hgH hatH)
        have S4 := S3.out.own_push (i := 1) rfl (bb _) hownH hgH hatH
        obtain ⟨aH, cH, rfl⟩ := owns_form hownH
        clear hownH hgH hatH kB
        replace S4 := Lib.hid S4
        clear S3
        refine hK.out _ _ trivial (fun _ => ?_)
        clear hK
        (try simp only [put_rules])
        (refine walkT_done (by kernel_rfl) ?_)
        simp only [List.drop_succ_cons, List.drop_zero]
        (refine wpList_append_src rfl _ _ rfl Try.underlying22 hi hz0 hz1 hz2 rfl (by decide) _ (P + 1) _ rfl (S4.out.own (i := 1) rfl) _ (ks.length - P) _ _ rfl (sFr.out.grow S4.out.below) aFr.out (by unfold maxLen; omega) (by omega) ?_; intro v5 w5 hown5 hg5 hat5)
        have S9 := S4.out.own_push (i := 1) rfl (bb _) hown5 hg5 hat5
        have ho9 := S9.owns_end (i := 1) rfl
        have hB9 := S9.below
        obtain ⟨a5, c5, rfl⟩ := owns_form hown5
        have hf := Lib.hid (hnew.out _ _ ho9 hB9)
        clear S9 ho9 hB9 hown5 hg5 hat5 S4
        go_wp2_with fail
        go_ret
        exact hf.out
    · skip
      go_simp
      have S1 := S0.out.alloc_box #[.slice ua c.length uc] 25
      (try simp only [drew_size] at S1)
      replace S1 := Lib.hid S1
      clear S0
      refine hK.out _ _ trivial (fun _ => ?_)
      clear hK
      (try simp only [put_rules])
      (refine walkT_ready (rs := [0]) (by kernel_rfl) (by simp) (by decide) ?_; refine AllT.cons rfl (fun K hK => ?_) AllT.nil)
      go_simp
      have S2 := S1.out.own_made 25 1
      (try simp only [World.size_alloc, drew_size] at S2)
      replace S2 := Lib.hid S2
      clear S1
      refine hK.out _ _ trivial (fun _ => ?_)
      clear hK
      (try simp only [put_rules])
      (refine walkT_ready (rs := [4]) (by kernel_rfl) (by simp) (by decide) ?_; refine AllT.cons rfl (fun K hK => ?_) AllT.nil)
      (refine step_append_src rfl _ _ rfl Try.underlying22 hi hz0 hz1 hz2 rfl (by decide) _ 0 _ rfl (S2.out.own (i := 0) rfl) _ P cap _ rfl (sTo.out.grow S2.out.below) aTo.out (by unfold maxLen; omega) (by omega) ?_; intro vE wE hownE hgE hatE)
      have S3 := S2.out.own_push (i := 0) rfl (bb _) hownE hgE hatE
      obtain ⟨aE, cE, rfl⟩ := owns_form hownE
      rw [Nat.zero_add, List.nil_append] at S3
      clear hownE hgE hatE
      simp only [Nat.zero_add]
      replace S3 := Lib.hid S3
      clear S2
      refine hK.out _ _ trivial (fun _ => ?_)
      clear hK
      (try simp only [put_rules])
      (refine walkT_ready (rs := [7]) (by kernel_rfl) (by simp) (by decide) ?_; refine AllT.cons rfl (fun K hK => ?_) AllT.nil)
      have kB := S3.out.cell (i := 1) rfl (o := 0) rfl
      (refine step_append_src rfl _ _ rfl Try.underlying22 hi hz0 hz1 hz2 rfl (by decide) _ P _ rfl (S3.out.own (i := 0) rfl) _ 1 1 [.slice ua c.length uc] rfl (Src.one kB) (by simp [Value.oneCell']) (by unfold maxLen; omega) (by omega) ?_; intro vH wH hownH hgH hatH)
      have S4 := S3.out.own_push (i := 0) rfl (bb _) hownH hgH hatH
      obtain ⟨aH, cH, rfl⟩ := owns_form hownH
      clear hownH hgH hatH kB
      replace S4 := Lib.hid S4
      clear S3
      refine hK.out _ _ trivial (fun _ => ?_)
      clear hK
      (try simp only [put_rules])
      (refine walkT_done (by kernel_rfl) ?_)
      simp only [List.drop_succ_cons, List.drop_zero]
      (refine wpList_append_src rfl _ _ rfl Try.underlying22 hi hz0 hz1 hz2 rfl (by decide) _ (P + 1) _ rfl (S4.out.own (i := 0) rfl) _ (ks.length - P) _ _ rfl (sFr.out.grow S4.out.below) aFr.out (by unfold maxLen; omega) (by omega) ?_; intro v5 w5 hown5 hg5 hat5)
      have S9 := S4.out.own_push (i := 0) rfl (bb _) hown5 hg5 hat5
      have ho9 := S9.owns_end (i := 0) rfl
      have hB9 := S9.below
      obtain ⟨a5, c5, rfl⟩ := owns_form hown5
      have hf := Lib.hid (hnew.out _ _ ho9 hB9)
      clear S9 ho9 hB9 hown5 hg5 hat5 S4
      go_wp2_with fail
      go_ret
      exact hf.out
end Go.Proofs.Ytebpknekaljgnaa
