/- Contracts: clauses in the reference: copying, comparing, finding the place. -/
import Derived.Test.YtebpknekaljgnaaNwH
import Derived.Test.YtebpknekaljgnaaSepB
import Derived.Test.YtebpknekaljgnaaHTail
namespace Go.Proofs.Ytebpknekaljgnaa
open Go.RowKit

/-- An own row of numbers. -/
def OwnsPost (w : World) (xs : List Int) (e : Ending) (w' : World) : Prop := ∃ v, e = .returned v ∧ w'.ownsRow w.heap.size 3 1 v xs.length (xs.map (.int .i64)) ∧ Below w.heap.size w w'
theorem owns_base {w : World} {B : Nat} {e : TypeId} {size : Nat} {v : Value} {n : Nat} {xs : List Value} (h : w.ownsRow 0 e size v n xs) (hB : ∀ g, v.ownBlock = some g → B ≤ g) : w.ownsRow B e size v n xs := by
  obtain ⟨hl, h | ⟨g, cap, cur, rfl, hg, r⟩⟩ := h
  · exact ⟨hl, .inl h⟩
  · exact ⟨hl, .inr ⟨g, cap, cur, rfl, hB g rfl, r⟩⟩
theorem owns_zero {w : World} {B : Nat} {e : TypeId} {size : Nat} {v : Value} {n : Nat} {xs : List Value} (h : w.ownsRow B e size v n xs) : w.ownsRow 0 e size v n xs := by
  obtain ⟨hl, h | ⟨g, cap, cur, rfl, hg, r⟩⟩ := h
  · exact ⟨hl, .inl h⟩
  · exact ⟨hl, .inr ⟨g, cap, cur, rfl, Nat.zero_le _, r⟩⟩
theorem owns_ge {w : World} {B : Nat} {e : TypeId} {size : Nat} {v : Value} {n : Nat} {xs : List Value} (h : w.ownsRow B e size v n xs) : ∀ g, v.ownBlock = some g → B ≤ g := by
  obtain ⟨hl, ⟨rfl, _⟩ | ⟨g, cap, cur, rfl, hg, r⟩⟩ := h
  · intro g hg; cases hg
  · intro g' hg'
    obtain rfl : g = g' := by simpa [Value.ownBlock] using hg'
    exact hg
/-- The row that a list of parts owns, at the end. -/
theorem Sp.owns_end {w0 w : World} {ps : List Asn} {i : Nat} {size n : Nat} {e : TypeId} {v : Value} {xs : List Value} (h : Sp w0 w ps) (hi : ps[i]? = some (Own e size v n xs)) : w.ownsRow w0.heap.size e size v n xs := by
  obtain ⟨F, ⟨rfl, h1⟩, h2⟩ := h.get hi
  exact owns_base h1 fun g hg => h2 g (by simp [hg])
theorem Sp.own_call {w0 w w' : World} {ps : List Asn} {size n : Nat} {e : TypeId} {v : Value} {xs : List Value} (h : Sp w0 w ps) (hb : Below w.heap.size w w') (ho : w'.ownsRow w.heap.size e size v n xs) : Sp w0 w' (Own e size v n xs :: ps) :=
  h.own_new hb (owns_zero ho) (owns_ge ho)
theorem ints_one (xs : List Int) : ∀ u ∈ xs.map (Value.int .i64), u.oneCell' = true := by
  intro u hu
  obtain ⟨x, _, rfl⟩ := List.mem_map.1 hu
  rfl

set_option maxHeartbeats 1000000 in
theorem l1Own_any (v : Value) (xs : List Int) (F : List Nat) (w : World) (h : Ty.int.row false w v xs F) (hl : xs.length ≤ 10000000000) :
    Calls Try.prog 53 #[v] w (OwnsPost w xs) := by
  obtain ⟨i0, hi, hz0, hz1, hz2⟩ := info_parts infoInt
  have S0 := (Sp.start w).own_made 3 1
  have hB0 := S0.below
  obtain ⟨A, c, rfl, hsrc⟩ := row_src_int (Ty.row_grow h hB0)
  replace S0 := Lib.hid S0
  go_enter Try.func53, Try.ntmps53
  go_wp2_with (at_builtin; refine wpList_append_src rfl _ _ rfl Try.underlying25 hi hz0 hz1 hz2 rfl (by decide) _ _ _ rfl (S0.out.own (i := 0) rfl) A xs.length c _ rfl hsrc (ints_one xs) ?c3 ?c4 ?_)
  case c3 => unfold maxLen; omega
  case c4 => omega
  intro v' w1 hown hg hat
  have S1 := S0.out.own_push (i := 0) rfl (bb _) hown hg (by simpa using hat)
  have ho := S1.owns_end (i := 0) rfl
  have hB := S1.below
  obtain ⟨a, c', rfl⟩ := owns_form ho
  replace ho := Lib.hid ho
  clear hown hg hat S1 S0
  go_wp2_with fail
  go_ret
  exact ⟨_, rfl, ho.out, hB⟩

set_option maxHeartbeats 1000000 in
theorem l1Same_any (v u : Value) (xs ys : List Int) (F G : List Nat) (w : World) (hx : Ty.int.row false w v xs F) (hy : Ty.int.row false w u ys G) :
    Calls Try.prog 51 #[v, u] w fun e w' => e = .returned (.bool (decide (xs = ys))) ∧ Below w.heap.size w w' := by
  obtain ⟨a, c, rfl, hx1, hx2, _, hx3⟩ := row_int hx
  obtain ⟨a', c', rfl, hy1, hy2, _, hy3⟩ := row_int hy
  by_cases hl : xs.length = ys.length
  case neg =>
    have hne : ((xs.length : Int) == (ys.length : Int)) = false := by simp; omega
    have hd : Hid (decide (xs = ys) = false) := by unfold Hid; simp; rintro rfl; exact hl rfl
    clear hl
    go_enter Try.func51, Try.ntmps51
    go_wp2_with fail
    go_ret
    exact ⟨ret_bool hd.out.symm, bb _⟩
  have hne : ((xs.length : Int) == (ys.length : Int)) = true := by simp; omega
  replace hl := (show Hid (xs.length = ys.length) from hl)
  go_enter Try.func51, Try.ntmps51
  go_wp2_with fail
  go_loopw [5] (fun i wr => ∃ k : Nat, k ≤ xs.length ∧ i = .int .i64 k ∧ Hid (xs.take k = ys.take k) ∧ Below w.heap.size w wr) (fun i _ => xs.length - (intOf i).toNat)
  case atStart => exact ⟨0, Nat.zero_le _, rfl, by simp [Hid], bb _⟩
  case round =>
    obtain ⟨k, hk, rfl, HR, hB⟩ := hrel
    by_cases hlt : k < xs.length
    · rcases hx3 with ⟨rfl, rfl⟩ | ⟨hxn, b, off, rfl, rfl, hxc⟩
      · exact absurd hlt (by simp)
      have hlt' : k < ys.length := by have := hl.out; omega
      rcases hy3 with ⟨rfl, rfl⟩ | ⟨hyn, b', off', rfl, rfl, hyc⟩
      · exact absurd hlt' (by simp)
      have k0 := cell_regrown ((hxc k hlt).keep (hB.block b (hxc k hlt).lt)).1
      have k1 := cell_regrown ((hyc k hlt').keep (hB.block b' (hyc k hlt').lt)).1
      have HS : Hid (xs.take (k + 1) = ys.take (k + 1) ↔ xs[k] = ys[k]) := by
        unfold Hid
        rw [List.take_succ_eq_append_getElem hlt, List.take_succ_eq_append_getElem hlt', HR.out]
        exact ⟨fun h => by have := List.append_cancel_left h; simpa using this, fun h => by rw [h]⟩
      by_cases he : xs[k] = ys[k]
      · have he' : (xs[k] != ys[k]) = false := by simpa using he
        have HN : Hid (xs.take (k + 1) = ys.take (k + 1)) := HS.out.2 he
        clear he HS
        go_wp2_with fail
        refine wp_region_quiet_below (by kernel_rfl) (by kernel_rfl) ?_
        repeat (any_goals (go_big_quiet_step (fail)))
        refine wpQuiet_nil ?_
        rintro w1 ⟨p, rfl⟩
        go_wp2_with fail
        go_roundw
        case rel => exact ⟨k + 1, by omega, by go_num, HN, hB.trans ((below_regrown _ _ _).mono hB.size)⟩
        case measure => simp [intOf]; omega
      · have he' : (xs[k] != ys[k]) = true := by simpa using he
        have HN : Hid (decide (xs = ys) = false) := by
          unfold Hid
          simp only [decide_eq_false_iff_not]
          rintro rfl
          exact he rfl
        clear he HS
        go_wp2_with fail
        refine wp_region_quiet_below (by kernel_rfl) (by kernel_rfl) ?_
        repeat (any_goals (go_big_quiet_step (fail)))
        refine wpQuiet_nil ?_
        rintro w1 ⟨p, rfl⟩
        go_wp2_with fail
        go_ret
        exact ⟨ret_bool HN.out.symm, hB.trans ((below_regrown _ _ _).mono hB.size)⟩
    · go_wp2_with fail
      go_ret
      have : xs = ys := by
        have h1 := HR.out
        rwa [List.take_of_length_le (by omega), List.take_of_length_le (by have := hl.out; omega)] at h1
      exact ⟨ret_bool (by simp [this]), hB⟩
theorem l1Same_at {v u : Value} {xs ys : List Int} {F G : List Nat} {w : World} {q : Bool} (hx : Ty.int.row false w v xs F) (hy : Ty.int.row false w u ys G) (h : decide (xs = ys) = q) :
    Calls Try.prog 51 #[v, u] w fun e w' => e = .returned (.bool q) ∧ Below w.heap.size w w' := h ▸ l1Same_any v u xs ys F G w hx hy

/-- The key by which literals are ordered. -/
def keyL (l : Int) : Int := if l < 0 then -2 * l + 1 else 2 * l
theorem l2Key_any (l : Int) (w : World) (h0 : -1000000 ≤ l) (h1 : l ≤ 1000000) :
    Calls Try.prog 68 #[.int .i64 l] w fun e w' => e = .returned (.int .i64 (keyL l)) ∧ w = w' := by
  by_cases h : l < 0
  · have hd : Hid (keyL l = -2 * l + 1) := if_pos h
    go_enter Try.func68, Try.ntmps68
    go_wp2_with fail
    go_ret
    exact ⟨ret_int (by rw [hd.out]), rfl⟩
  · have hd : Hid (keyL l = 2 * l) := if_neg h
    go_enter Try.func68, Try.ntmps68
    go_wp2_with fail
    go_ret
    exact ⟨ret_int (by rw [hd.out]), rfl⟩
theorem l2Key_b {l : Int} {w : World} (h0 : -1000000 ≤ l) (h1 : l ≤ 1000000) :
    Calls Try.prog 68 #[.int .i64 l] w fun e w' => e = .returned (.int .i64 (keyL l)) ∧ Below w.heap.size w w' := (l2Key_any l w h0 h1).mono fun _ _ ⟨h, e⟩ => ⟨h, e ▸ bb _⟩
/-- Literals that are not too great. -/
def Mild (xs : List Int) : Prop := ∀ x ∈ xs, -1000000 ≤ x ∧ x ≤ 1000000
/-- The first literals that differ decide. -/
def lexB : List Int → List Int → Bool
  | x :: xs, y :: ys => if x = y then lexB xs ys else decide (keyL x < keyL y)
  | _, _ => false
/-- The order of clauses. -/
def beforeB (a b : List Int) : Bool := if a.length = b.length then lexB a b else decide (a.length < b.length)
theorem lexB_same : ∀ (p a b : List Int), lexB (p ++ a) (p ++ b) = lexB a b
  | [], _, _ => rfl
  | x :: p, a, b => by rw [List.cons_append, List.cons_append, lexB, if_pos rfl, lexB_same p a b]
theorem lexB_at {a b : List Int} {k : Nat} (ha : k < a.length) (hb : k < b.length) (h : a.take k = b.take k) : lexB a b = if a[k] = b[k] then lexB (a.drop (k + 1)) (b.drop (k + 1)) else decide (keyL a[k] < keyL b[k]) := by
  conv => lhs; rw [← List.take_append_drop k a, ← List.take_append_drop k b, h, lexB_same, List.drop_eq_getElem_cons ha, List.drop_eq_getElem_cons hb, lexB]
theorem lexB_self (a : List Int) : lexB a a = false := by
  have := lexB_same a [] []
  simpa [lexB] using this

set_option maxHeartbeats 1000000 in
theorem l2Before_any (v u : Value) (xs ys : List Int) (F G : List Nat) (w : World) (hx : Ty.int.row false w v xs F) (hy : Ty.int.row false w u ys G) (mx : Mild xs) (my : Mild ys) :
    Calls Try.prog 64 #[v, u] w fun e w' => e = .returned (.bool (beforeB xs ys)) ∧ Below w.heap.size w w' := by
  obtain ⟨a, c, rfl, hx1, hx2, _, hx3⟩ := row_int hx
  obtain ⟨a', c', rfl, hy1, hy2, _, hy3⟩ := row_int hy
  by_cases hl : xs.length = ys.length
  case neg =>
    have hne : ((xs.length : Int) == (ys.length : Int)) = false := by simp; omega
    have hd : Hid (beforeB xs ys = decide (xs.length < ys.length)) := if_neg hl
    clear hl
    go_enter Try.func64, Try.ntmps64
    go_wp2_with fail
    go_ret
    exact ⟨ret_bool (by rw [hd.out]), bb _⟩
  have hne : ((xs.length : Int) == (ys.length : Int)) = true := by simp; omega
  have hd : Hid (beforeB xs ys = lexB xs ys) := if_pos hl
  replace hl := (show Hid (xs.length = ys.length) from hl)
  go_enter Try.func64, Try.ntmps64
  go_wp2_with fail
  go_loopw [5] (fun i wr => ∃ k : Nat, k ≤ xs.length ∧ i = .int .i64 k ∧ Hid (xs.take k = ys.take k) ∧ Below w.heap.size w wr) (fun i _ => xs.length - (intOf i).toNat)
  case atStart => exact ⟨0, Nat.zero_le _, rfl, by simp [Hid], bb _⟩
  case round =>
    obtain ⟨k, hk, rfl, HR, hB⟩ := hrel
    by_cases hlt : k < xs.length
    · rcases hx3 with ⟨rfl, rfl⟩ | ⟨hxn, b, off, rfl, rfl, hxc⟩
      · exact absurd hlt (by simp)
      have hlt' : k < ys.length := by have := hl.out; omega
      rcases hy3 with ⟨rfl, rfl⟩ | ⟨hyn, b', off', rfl, rfl, hyc⟩
      · exact absurd hlt' (by simp)
      have k0 := cell_regrown ((hxc k hlt).keep (hB.block b (hxc k hlt).lt)).1
      have k1 := cell_regrown ((hyc k hlt').keep (hB.block b' (hyc k hlt').lt)).1
      have HS : Hid (xs.take (k + 1) = ys.take (k + 1) ↔ xs[k] = ys[k]) := by
        unfold Hid
        rw [List.take_succ_eq_append_getElem hlt, List.take_succ_eq_append_getElem hlt', HR.out]
        exact ⟨fun h => by have := List.append_cancel_left h; simpa using this, fun h => by rw [h]⟩
      by_cases he : xs[k] = ys[k]
      · have he' : (xs[k] != ys[k]) = false := by simpa using he
        have HN : Hid (xs.take (k + 1) = ys.take (k + 1)) := HS.out.2 he
        clear he HS
        go_wp2_with fail
        refine wp_region_quiet_below (by kernel_rfl) (by kernel_rfl) ?_
        repeat (any_goals (go_big_quiet_step (fail)))
        refine wpQuiet_nil ?_
        rintro w1 ⟨p, rfl⟩
        go_wp2_with fail
        go_roundw
        case rel => exact ⟨k + 1, by omega, by go_num, HN, hB.trans ((below_regrown _ _ _).mono hB.size)⟩
        case measure => simp [intOf]; omega
      · have he' : (xs[k] != ys[k]) = true := by simpa using he
        have m1 := mx _ (List.getElem_mem hlt)
        have m2 := my _ (List.getElem_mem hlt')
        have HN : Hid (beforeB xs ys = decide (keyL xs[k] < keyL ys[k])) := by
          unfold Hid
          rw [hd.out, lexB_at hlt hlt' HR.out, if_neg he]
        obtain ⟨m3, m4⟩ := m1
        obtain ⟨m5, m6⟩ := m2
        clear he HS
        go_wp2_with fail
        refine wp_region_quiet_below (by kernel_rfl) (by kernel_rfl) ?_
        repeat (any_goals (go_big_quiet_step (fail)))
        refine wpQuiet_nil ?_
        rintro w1 hw1
        have hb1 : Below wr.heap.size wr w1 := by obtain ⟨p, rfl⟩ := hw1; exact below_regrown _ _ _
        clear hw1
        have hB1 := hB.trans (hb1.mono hB.size)
        have k2 := cell_regrown ((hxc k hlt).keep (hB1.block b (hxc k hlt).lt)).1
        have k3 := cell_regrown ((hyc k hlt').keep (hB1.block b' (hyc k hlt').lt)).1
        clear k0 k1 hb1
        go_wp2_with fail
        refine wp_region_quiet_below (by kernel_rfl) (by kernel_rfl) ?_
        repeat (any_goals (first | go_big_quiet_step ((go_at_call 68; exact Calls.regrown_of (l2Key_b (by assumption) (by assumption))))))
        refine wpQuiet_nil ?_
        rintro w2 hw2
        have hb2 : Below w1.heap.size w1 w2 := by obtain ⟨p, rfl⟩ := hw2; exact below_regrown _ _ _
        clear hw2
        have hB2 := hB1.trans (hb2.mono hB1.size)
        go_wp2_with fail
        go_ret
        exact ⟨ret_bool HN.out.symm, hB2⟩
    · go_wp2_with fail
      go_ret
      have : xs = ys := by
        have h1 := HR.out
        rwa [List.take_of_length_le (by omega), List.take_of_length_le (by have := hl.out; omega)] at h1
      exact ⟨ret_bool (by rw [hd.out, this, lexB_self]), hB⟩
end Go.Proofs.Ytebpknekaljgnaa
