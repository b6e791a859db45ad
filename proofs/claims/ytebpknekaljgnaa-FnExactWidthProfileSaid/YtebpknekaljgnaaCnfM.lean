/- Contracts: rows of rows of ints marked and held; Cnfs in the laws. -/
import Derived.Test.YtebpknekaljgnaaCnfB
import Derived.Test.YtebpknekaljgnaaSepA
import Derived.Lib.Hide
namespace Go.Proofs.Ytebpknekaljgnaa
open Go.RowKit

/-- One row of a row of rows turns. -/
theorem rows_one {α : Type} {T : Ty α} {w : World} {v : Value} {xss : List (List α)} {F : List Nat} (h : (Ty.slice T).row true w v xss F) (hn : F.Nodup) {k : Nat} (hk : k < xss.length) :
    ∃ b off cap u Fk, v = .slice (some ⟨b, off, none⟩) xss.length cap ∧ w.cell? ⟨b, off + k, none⟩ = some u ∧ T.row true w u xss[k] Fk ∧ (∀ x ∈ Fk, x ∈ F) ∧
      ∀ w' ys, T.row true w' u ys Fk → Chg Fk w w' → (Ty.slice T).row true w' v (xss.set k ys) F := by
  obtain ⟨a, cap, cs, G, rfl, h1, h2, hall, ⟨rfl, _⟩ | ⟨hs, hne, b, off, rfl, rfl, hc⟩⟩ := h
  · exact absurd hk (by simp)
  obtain ⟨c, d, e, F1, F2, F3, rfl, rfl, hl, a1, ⟨u, rfl, hu⟩, a3⟩ := Ty.all_split hall k hk
  have hl' : c.length = k := by rw [hl]; show k * 1 = k; omega
  have hn' := List.nodup_cons.1 hn
  have hn2 := List.nodup_append.1 hn'.2
  have hn3 := List.nodup_append.1 hn2.1
  refine ⟨b, off, cap, u, F2, rfl, ?_, hu, fun x hx => by simp [hx], fun w' ys hr hch => ?_⟩
  · have := (hc k (by simp; omega)).1
    rw [List.getElem_append_left (by simp; omega), List.getElem_append_right (by omega)] at this
    simpa [hl'] using this
  · have b1 := Ty.all_keep (w' := w') a1 fun x hx => hch.block x (Ty.all_lt a1 x hx) fun hx2 => hn3.2.2 x hx x hx2 rfl
    have b3 := Ty.all_keep (w' := w') a3 fun x hx => hch.block x (Ty.all_lt a3 x hx) fun hx2 => hn2.2.2 x (List.mem_append.2 (.inr hx2)) x hx rfl
    have hlen : (xss.set k ys).length = xss.length := List.length_set
    refine ⟨some ⟨b, off, none⟩, cap, c ++ [u] ++ e, F1 ++ F2 ++ F3, by rw [hlen], by rw [hlen]; exact h1, h2, ?_, .inr ⟨hs, ?_, b, off, rfl, rfl, fun j hj => ?_⟩⟩
    · rw [List.set_eq_take_append_cons_drop, if_pos hk]
      have := Ty.all_append (Ty.all_append b1 (Ty.all_one (T := Ty.slice T) (c := [u]) (x := ys) (F := F2) ⟨u, rfl, hr⟩)) b3
      simpa using this
    · intro e; rw [e] at hlen; simp at hlen; omega
    · refine (hc j hj).keep (hch.block b ?_ fun hb => hn'.1 (by simp [hb]))
      exact (hc j hj).lt

/-- A row of rows with marks. -/
def marksS : Int → List (List Int) → List (List Int)
  | _, [] => []
  | m, xs :: xss => marks m xs.length :: marksS (m + xs.length) xss
theorem marksS_length : ∀ (m : Int) (xss : List (List Int)), (marksS m xss).length = xss.length
  | _, [] => rfl
  | m, xs :: xss => by simp [marksS, marksS_length _ xss]
theorem marksS_snoc : ∀ (m : Int) (xss : List (List Int)) (ys : List Int), marksS m (xss ++ [ys]) = marksS m xss ++ [marks (m + ((xss.map List.length).sum : Nat)) ys.length]
  | m, [], ys => by simp [marksS]
  | m, xs :: xss, ys => by
    simp only [List.cons_append, marksS, marksS_snoc _ xss ys, List.map_cons, List.sum_cons]
    rw [Int.natCast_add, Int.add_assoc]
theorem marksS_step {m : Int} {xss : List (List Int)} {k : Nat} (hk : k < xss.length) : marksS m (xss.take (k + 1)) = marksS m (xss.take k) ++ [marks (m + sumTo xss k) xss[k].length] := by
  rw [List.take_succ_eq_append_getElem hk, marksS_snoc]; rfl
theorem marksS_get {m : Int} {xss : List (List Int)} {k : Nat} (hk : k < xss.length) (h : k < (marksS m (xss.take k) ++ xss.drop k).length) : (marksS m (xss.take k) ++ xss.drop k)[k] = xss[k] := by
  have hl : (marksS m (xss.take k)).length = k := by rw [marksS_length, List.length_take]; omega
  rw [List.getElem_append_right (by omega)]
  simp [hl]
theorem marksS_set {m : Int} {xss : List (List Int)} {k : Nat} (hk : k < xss.length) : (marksS m (xss.take k) ++ xss.drop k).set k (marks (m + sumTo xss k) xss[k].length) = marksS m (xss.take (k + 1)) ++ xss.drop (k + 1) := by
  have hl : (marksS m (xss.take k)).length = k := by rw [marksS_length, List.length_take]; omega
  rw [marksS_step hk, List.set_append_right _ _ (by omega), hl, Nat.sub_self, List.drop_eq_getElem_cons hk, List.set_cons_zero]
  simp only [List.append_assoc, List.cons_append, List.nil_append]

set_option maxHeartbeats 1000000 in
theorem markIntSS_any (v : Value) (m : Int) (xss : List (List Int)) (F : List Nat) (w : World) (hx : (Ty.slice Ty.int).row true w v xss F) (hn : F.Nodup) (h0 : 0 ≤ m) (h1 : m + (xss.map List.length).sum ≤ 100000000000000000) :
    Calls Try.prog 43 #[v, .int .i64 m] w (MarkPost (Ty.slice Ty.int) w v (m + (xss.map List.length).sum) (marksS m xss) F) := by
  obtain ⟨a, c, rfl, hx1, hx2⟩ := Ty.row_len hx
  go_enter Try.func43, Try.ntmps43
  go_wp2_with fail
  go_loopw [1, 5] (fun n i wr => ∃ (k : Nat) (z : Int), k ≤ xss.length ∧ i = .int .i64 k ∧ n = .int .i64 z ∧ Hid (z = m + sumTo xss k) ∧ (Ty.slice Ty.int).row true wr (.slice a xss.length c) (marksS m (xss.take k) ++ xss.drop k) F ∧ Chg F w wr) (fun _ i _ => xss.length - (intOf i).toNat)
  case atStart => exact ⟨0, m, Nat.zero_le _, rfl, rfl, by simp [Hid, sumTo_zero], by simpa [marksS] using hx, Chg.refl _ _⟩
  case round =>
    obtain ⟨k, z, hk, rfl, rfl, HZ, HR, HC⟩ := hrel
    have hl : (marksS m (xss.take k) ++ xss.drop k).length = xss.length := by rw [List.length_append, marksS_length, List.length_take, List.length_drop]; omega
    by_cases hlt : k < xss.length
    · obtain ⟨b, off, cap, u, Fk, e1, k0, hu, hsub, hall⟩ := rows_one HR hn (k := k) (by omega)
      rw [hl] at e1
      simp only [Value.slice.injEq, true_and] at e1
      obtain ⟨rfl, rfl⟩ := e1
      rw [marksS_get hlt] at hu
      obtain ⟨ua, uc, rfl, _, _⟩ := Ty.row_len hu
      have hs1 := sumTo_succ xss k hlt
      have hs2 := sumTo_le xss (k + 1)
      have hz := HZ.out
      have hz0 : 0 ≤ z := by omega
      have hz1 : z + xss[k].length ≤ 1000000000000000000 := by omega
      have HW : Hid (m + sumTo xss (k + 1) = z + xss[k].length) := by unfold Hid; omega
      have HA := Lib.hid hall
      have HQ : Hid ((marksS m (xss.take k) ++ xss.drop k).set k (marks z xss[k].length) = marksS m (xss.take (k + 1)) ++ xss.drop (k + 1)) := by
        unfold Hid; rw [hz]; exact marksS_set hlt
      clear hall hl hs1 hs2 hz HR
      go_wp2_with (go_at_call 24; (with_reducible refine (markIntS_any _ z _ _ _ hu hz0 hz1).mono ?_); rintro e w1 ⟨rfl, hr1, hc1⟩)
      have HN := HA.out w1 _ hr1 hc1
      rw [HQ.out] at HN
      replace HN := Lib.hid HN
      have HC1 := HC.trans (hc1.mono hsub)
      go_wp2_with fail
      go_roundw
      case rel => exact ⟨k + 1, _, by omega, by go_num, rfl, HW.out.symm, HN.out, HC1⟩
      case measure => simp [intOf]; omega
    · obtain rfl : k = xss.length := by omega
      have HR' : (Ty.slice Ty.int).row true wr (.slice a xss.length c) (marksS m xss) F := by simpa using HR
      have hz : z = m + ((xss.map List.length).sum : Nat) := by have := HZ.out; rw [sumTo_all] at this; exact this
      replace HR' := Lib.hid HR'
      replace hz := Lib.hid hz
      clear HR HZ
      go_wp2_with fail
      go_ret
      exact ⟨ret_int hz.out, HR'.out, HC⟩

/- left out: the seat has no laws.heldIntSS -/

/-! Cnfs. -/
set_option maxHeartbeats 1000000 in
theorem szCnf_any (vars : Int) (v : Value) (xss : List (List Int)) (F : List Nat) (n : Int) (w : World) (hx : (Ty.slice Ty.int).row false w v xss F) (h0 : 0 ≤ n) (h1 : n ≤ 1048576) :
    Calls Try.prog 8 #[.agg #[.int .i64 vars, v], .int .i64 n] w fun e w' => e = .returned (.int .i64 (szOf n (bulk xss))) ∧ Below w.heap.size w w' := by
  obtain ⟨a, c, rfl, _, _⟩ := Ty.row_len hx
  by_cases hb : n < (bulk xss : Int)
  · rw [szOf_no hb]
    go_enter Try.func8, Try.ntmps8
    go_wp2_with (go_at_call 26; refine (szIntSS_any _ xss F _ _ (Ty.row_grow hx (by repeat (first | exact bb _ | assumption | refine bal ?_ _ | refine bdr ?_ | refine bdn ?_ _ | refine bst ?_ (by simp <;> omega) _ | refine btr ?_ (by assumption)))) h0 h1).mono ?_; rw [szOf_no hb]; rintro e w1 ⟨rfl, rfl⟩)
    go_ret
    exact ⟨rfl, (by repeat (first | exact bb _ | assumption | refine bal ?_ _ | refine bdr ?_ | refine bdn ?_ _ | refine bst ?_ (by simp <;> omega) _ | refine btr ?_ (by assumption)))⟩
  · rw [szOf_yes (by omega)]
    have hz : ¬ n - bulk xss < 0 := by omega
    go_enter Try.func8, Try.ntmps8
    go_wp2_with (go_at_call 26; refine (szIntSS_any _ xss F _ _ (Ty.row_grow hx (by repeat (first | exact bb _ | assumption | refine bal ?_ _ | refine bdr ?_ | refine bdn ?_ _ | refine bst ?_ (by simp <;> omega) _ | refine btr ?_ (by assumption)))) h0 h1).mono ?_; rw [szOf_yes (by omega)]; rintro e w1 ⟨rfl, rfl⟩)
    go_ret
    exact ⟨rfl, (by repeat (first | exact bb _ | assumption | refine bal ?_ _ | refine bdr ?_ | refine bdn ?_ _ | refine bst ?_ (by simp <;> omega) _ | refine btr ?_ (by assumption)))⟩

/-- A Cnf of its own. -/
def OwnCnf (w : World) (vars : Int) (xss : List (List Int)) (e : Ending) (w' : World) : Prop :=
  ∃ v F, e = .returned (.agg #[.int .i64 vars, v]) ∧ (Ty.slice Ty.int).row true w' v xss F ∧ F.Nodup ∧ (∀ b ∈ F, w.heap.size ≤ b) ∧ Below w.heap.size w w'

theorem row_set' {α : Type} {T : Ty α} {wr : Bool} {w : World} {v : Value} {xs : List α} {F : List Nat} (h : T.row wr w v xs F) {b o : Nat} (hb : b ∉ F) (u : Value) : T.row wr (w.setCell ⟨b, o, none⟩ u) v xs F :=
  Ty.row_keep h fun x hx => Below.heap_setCell _ _ _ _ (fun e => hb (by rw [← show x = b from e]; exact hx))

set_option maxHeartbeats 1000000 in
theorem toCnf_any (vars : Int) (v : Value) (xss : List (List Int)) (F : List Nat) (w : World) (hx : (Ty.slice Ty.int).row false w v xss F) (h1 : bulk xss ≤ 100000000) :
    Calls Try.prog 10 #[.agg #[.int .i64 vars, v]] w (OwnCnf w vars xss) := by
  obtain ⟨a, c, rfl, _, _⟩ := Ty.row_len hx
  go_enter Try.func10, Try.ntmps10
  go_wp2_with fail
  refine (toIntSS_any _ xss F _ (Ty.row_grow hx (by repeat (first | exact bb _ | assumption | refine bal ?_ _ | refine bdr ?_ | refine bdn ?_ _ | refine bst ?_ (by simp <;> omega) _ | refine btr ?_ (by assumption)))) h1).mono ?_
  rintro e w1 ⟨v1, F1, rfl, hr1, hn1, hF1, hb1⟩
  obtain ⟨va, vc, rfl, _, _⟩ := Ty.row_len hr1
  obtain ⟨hc1, hf1⟩ := bcell hb1
  have hs1 : w.heap.size + 2 < w1.heap.size := by have := hb1.size; simp at this; omega
  have hB : Below w.heap.size w w1 := (by repeat (first | exact bb _ | assumption | refine bal ?_ _ | refine bdr ?_ | refine bdn ?_ _ | refine bst ?_ (by simp <;> omega) _ | refine btr ?_ (by assumption)))
  have k0 : w1.cell? ⟨w.heap.size + 2, 0, none⟩ = some (.int .i64 vars) := (hc1 _ _ (by simp)).trans (by simp [go_sem])
  have k1 : w1.cell? ⟨w.heap.size + 2, 1, none⟩ = some (.slice none 0 0) := (hc1 _ _ (by simp)).trans (by simp [go_sem])
  have g1 : w1.frozen? ⟨w.heap.size + 2, 1, none⟩ = false := (hf1 _ _ (by simp)).trans (by simp [go_sem])
  have j0 : w1.cell? ⟨w.heap.size + 1, 0, none⟩ = some (.int .i64 0) := (hc1 _ _ (by simp)).trans (by simp [go_sem])
  have j1 : w1.cell? ⟨w.heap.size + 1, 1, none⟩ = some (.slice none 0 0) := (hc1 _ _ (by simp)).trans (by simp [go_sem])
  have f0 : w1.frozen? ⟨w.heap.size + 1, 0, none⟩ = false := (hf1 _ _ (by simp)).trans (by simp [go_sem])
  have f1 : w1.frozen? ⟨w.heap.size + 1, 1, none⟩ = false := (hf1 _ _ (by simp)).trans (by simp [go_sem])
  have hF : ∀ b ∈ F1, w.heap.size + 3 ≤ b := fun b hb => by have := hF1 b hb; simpa using this
  clear hc1 hf1
  go_wp2_with fail
  exact bodyPost_ret (v := .agg #[.int .i64 vars, .slice va xss.length vc]) (by simp [results, Try.results10, go_sem, j0, j1]) rfl
    ⟨_, F1, rfl, row_set' (row_set' (row_set' hr1 (fun h => by have := hF _ h; omega) _) (fun h => by have := hF _ h; omega) _) (fun h => by have := hF _ h; omega) _, hn1, fun b hb => by have := hF b hb; omega, (by repeat (first | exact bb _ | assumption | refine bal ?_ _ | refine bdr ?_ | refine bdn ?_ _ | refine bst ?_ (by simp <;> omega) _ | refine btr ?_ (by assumption)))⟩

set_option maxHeartbeats 1000000 in
theorem eqCnf_same (vars : Int) (v u : Value) (xss : List (List Int)) (F G : List Nat) (w : World) (hx : (Ty.slice Ty.int).row false w v xss F) (hy : (Ty.slice Ty.int).row false w u xss G) :
    Calls Try.prog 13 #[.agg #[.int .i64 vars, v], .agg #[.int .i64 vars, u]] w fun e w' => e = .returned (.bool true) ∧ Below w.heap.size w w' := by
  obtain ⟨a, c, rfl, _, _⟩ := Ty.row_len hx
  obtain ⟨a', c', rfl, _, _⟩ := Ty.row_len hy
  go_enter Try.func13, Try.ntmps13
  go_wp2_with fail
  refine (eqIntSS_same _ _ xss F G _ (Ty.row_grow hx (by repeat (first | exact bb _ | assumption | refine bal ?_ _ | refine bdr ?_ | refine bdn ?_ _ | refine bst ?_ (by simp <;> omega) _ | refine btr ?_ (by assumption)))) (Ty.row_grow hy (by repeat (first | exact bb _ | assumption | refine bal ?_ _ | refine bdr ?_ | refine bdn ?_ _ | refine bst ?_ (by simp <;> omega) _ | refine btr ?_ (by assumption))))).mono ?_
  rintro e w1 ⟨rfl, hb1⟩
  go_wp2_with fail
  go_ret
  exact ⟨rfl, (by repeat (first | exact bb _ | assumption | refine bal ?_ _ | refine bdr ?_ | refine bdn ?_ _ | refine bst ?_ (by simp <;> omega) _ | refine btr ?_ (by assumption)))⟩

set_option maxHeartbeats 1000000 in
theorem markCnf_any (vars : Int) (v : Value) (m : Int) (xss : List (List Int)) (F : List Nat) (w : World) (hx : (Ty.slice Ty.int).row true w v xss F) (hn : F.Nodup) (h0 : 0 ≤ m) (h1 : m + (xss.map List.length).sum ≤ 100000000000000000) :
    Calls Try.prog 23 #[.agg #[.int .i64 vars, v], .int .i64 m] w (MarkPost (Ty.slice Ty.int) w v (m + (xss.map List.length).sum) (marksS m xss) F) := by
  obtain ⟨a, c, rfl, _, _⟩ := Ty.row_len hx
  go_enter Try.func23, Try.ntmps23
  go_wp2_with fail
  refine (markIntSS_any _ m xss F _ (Ty.row_grow hx (by repeat (first | exact bb _ | assumption | refine bal ?_ _ | refine bdr ?_ | refine bdn ?_ _ | refine bst ?_ (by simp <;> omega) _ | refine btr ?_ (by assumption)))) hn h0 h1).mono ?_
  rintro e w1 ⟨rfl, hr1, hc1⟩
  replace hc1 := (Chg.of_below (F := F) (bal (bb w) (.cells #[.int .i64 vars, .slice a xss.length c] 29))).trans hc1
  go_wp2_with fail
  go_ret
  exact ⟨rfl, hr1, hc1⟩

/- left out: the seat has no laws.heldCnf -/
end Go.Proofs.Ytebpknekaljgnaa
