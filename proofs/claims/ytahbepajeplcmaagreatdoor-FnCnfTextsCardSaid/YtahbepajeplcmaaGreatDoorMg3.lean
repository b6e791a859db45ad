/- Lemmas and contracts for a law, put together out of several texts: ClO ClQ PnA PnB CurK TxA TxB TxC. -/
import Derived.Test.YtahbepajeplcmaaGreatDoorMg2
import Derived.Test.YtahbepajeplcmaaGreatDoorMg1
import Derived.Deep.DeepCutAuto
import Derived.Deep.CutBlock
/- Contracts: clauses in the reference: copying, comparing, finding the place. -/
namespace Go.Proofs.YtahbepajeplcmaaGreatDoor
open Go.RowKit

/-- An own row of numbers. -/
def OwnsPost (w : World) (xs : List Int) (e : Ending) (w' : World) : Prop := ∃ v, e = .returned v ∧ w'.ownsRow w.heap.size 3 1 v xs.length (xs.map (.int .i64)) ∧ Below w.heap.size w w'
theorem ints_one (xs : List Int) : ∀ u ∈ xs.map (Value.int .i64), u.oneCell' = true := by
  intro u hu
  obtain ⟨x, _, rfl⟩ := List.mem_map.1 hu
  rfl

set_option maxHeartbeats 1000000 in
theorem l1Own_any (v : Value) (xs : List Int) (F : List Nat) (w : World) (h : Ty.int.row false w v xs F) (hl : xs.length ≤ 10000000000) :
    Calls Tryz.prog 116 #[v] w (OwnsPost w xs) := by
  obtain ⟨i0, hi, hz0, hz1, hz2⟩ := info_parts infoInt
  have S0 := (Sp.start w).own_made 3 1
  have hB0 := S0.below
  obtain ⟨A, c, rfl, hsrc⟩ := row_src_int (Ty.row_grow h hB0)
  replace S0 := Lib.hid S0
  go_enter Tryz.func116, Tryz.ntmps116
  go_wp2_with (at_builtin; refine wpList_append_src rfl _ _ rfl Tryz.underlying43 hi hz0 hz1 hz2 rfl (by decide) _ _ _ rfl (S0.out.own (i := 0) rfl) A xs.length c _ rfl hsrc (ints_one xs) ?c3 ?c4 ?_)
  case c3 => unfold maxLen; omega
  case c4 => omega
  intro v' w1 hown hg hat
  have S1 := S0.out.own_push (i := 0) rfl (bb _) hown hg (by simpa using hat)
  have ho := S1.owns_end (i := 0) rfl
  have hB := S1.below
  obtain ⟨a, c', rfl⟩ := owns_form ho
  replace ho := Lib.hid ho
  clear hown hg hat S1 S0
  go_wp2_with fail
  go_ret
  exact ⟨_, rfl, ho.out, hB⟩

set_option maxHeartbeats 1000000 in
theorem l1Same_any (v u : Value) (xs ys : List Int) (F G : List Nat) (w : World) (hx : Ty.int.row false w v xs F) (hy : Ty.int.row false w u ys G) :
    Calls Tryz.prog 120 #[v, u] w fun e w' => e = .returned (.bool (decide (xs = ys))) ∧ Below w.heap.size w w' := by
  obtain ⟨a, c, rfl, hx1, hx2, _, hx3⟩ := row_int hx
  obtain ⟨a', c', rfl, hy1, hy2, _, hy3⟩ := row_int hy
  by_cases hl : xs.length = ys.length
  case neg =>
    have hne : ((xs.length : Int) == (ys.length : Int)) = false := by simp; omega
    have hd : Hid (decide (xs = ys) = false) := by unfold Hid; simp; rintro rfl; exact hl rfl
    clear hl
    go_enter Tryz.func120, Tryz.ntmps120
    go_wp2_with fail
    go_ret
    exact ⟨ret_bool hd.out.symm, bb _⟩
  have hne : ((xs.length : Int) == (ys.length : Int)) = true := by simp; omega
  replace hl := (show Hid (xs.length = ys.length) from hl)
  go_enter Tryz.func120, Tryz.ntmps120
  go_wp2_with fail
  go_loopw [5] (fun i wr => ∃ k : Nat, k ≤ xs.length ∧ i = .int .i64 k ∧ Hid (xs.take k = ys.take k) ∧ Below w.heap.size w wr) (fun i _ => xs.length - (intOf i).toNat)
  case atStart => exact ⟨0, Nat.zero_le _, rfl, by simp [Hid], bb _⟩
  case round =>
    obtain ⟨k, hk, rfl, HR, hB⟩ := hrel
    by_cases hlt : k < xs.length
    · rcases hx3 with ⟨rfl, rfl⟩ | ⟨hxn, b, off, rfl, rfl, hxc⟩
      · exact absurd hlt (by simp)
      have hlt' : k < ys.length := by have := hl.out; omega
      rcases hy3 with ⟨rfl, rfl⟩ | ⟨hyn, b', off', rfl, rfl, hyc⟩
      · exact absurd hlt' (by simp)
      have k0 := cell_regrown ((hxc k hlt).keep (hB.block b (hxc k hlt).lt)).1
      have k1 := cell_regrown ((hyc k hlt').keep (hB.block b' (hyc k hlt').lt)).1
      have HS : Hid (xs.take (k + 1) = ys.take (k + 1) ↔ xs[k] = ys[k]) := by
        unfold Hid
        rw [List.take_succ_eq_append_getElem hlt, List.take_succ_eq_append_getElem hlt', HR.out]
        exact ⟨fun h => by have := List.append_cancel_left h; simpa using this, fun h => by rw [h]⟩
      by_cases he : xs[k] = ys[k]
      · have he' : (xs[k] != ys[k]) = false := by simpa using he
        have HN : Hid (xs.take (k + 1) = ys.take (k + 1)) := HS.out.2 he
        clear he HS
        go_wp2_with fail
        refine wp_region_quiet_below (by kernel_rfl) (by kernel_rfl) ?_
        repeat (any_goals (go_big_quiet_step (fail)))
        refine wpQuiet_nil ?_
        rintro w1 ⟨p, rfl⟩
        go_wp2_with fail
        go_roundw
        case rel => exact ⟨k + 1, by omega, by go_num, HN, hB.trans ((below_regrown _ _ _).mono hB.size)⟩
        case measure => simp [intOf]; omega
      · have he' : (xs[k] != ys[k]) = true := by simpa using he
        have HN : Hid (decide (xs = ys) = false) := by
          unfold Hid
          simp only [decide_eq_false_iff_not]
          rintro rfl
          exact he rfl
        clear he HS
        go_wp2_with fail
        refine wp_region_quiet_below (by kernel_rfl) (by kernel_rfl) ?_
        repeat (any_goals (go_big_quiet_step (fail)))
        refine wpQuiet_nil ?_
        rintro w1 ⟨p, rfl⟩
        go_wp2_with fail
        go_ret
        exact ⟨ret_bool HN.out.symm, hB.trans ((below_regrown _ _ _).mono hB.size)⟩
    · go_wp2_with fail
      go_ret
      have : xs = ys := by
        have h1 := HR.out
        rwa [List.take_of_length_le (by omega), List.take_of_length_le (by have := hl.out; omega)] at h1
      exact ⟨ret_bool (by simp [this]), hB⟩
theorem l1Same_at {v u : Value} {xs ys : List Int} {F G : List Nat} {w : World} {q : Bool} (hx : Ty.int.row false w v xs F) (hy : Ty.int.row false w u ys G) (h : decide (xs = ys) = q) :
    Calls Tryz.prog 120 #[v, u] w fun e w' => e = .returned (.bool q) ∧ Below w.heap.size w w' := h ▸ l1Same_any v u xs ys F G w hx hy

/-- The key by which literals are ordered. -/
def keyL (l : Int) : Int := if l < 0 then -2 * l + 1 else 2 * l
theorem l2Key_any (l : Int) (w : World) (h0 : -1000000 ≤ l) (h1 : l ≤ 1000000) :
    Calls Tryz.prog 231 #[.int .i64 l] w fun e w' => e = .returned (.int .i64 (keyL l)) ∧ w = w' := by
  by_cases h : l < 0
  · have hd : Hid (keyL l = -2 * l + 1) := if_pos h
    go_enter Tryz.func231, Tryz.ntmps231
    go_wp2_with fail
    go_ret
    exact ⟨ret_int (by rw [hd.out]), rfl⟩
  · have hd : Hid (keyL l = 2 * l) := if_neg h
    go_enter Tryz.func231, Tryz.ntmps231
    go_wp2_with fail
    go_ret
    exact ⟨ret_int (by rw [hd.out]), rfl⟩
theorem l2Key_b {l : Int} {w : World} (h0 : -1000000 ≤ l) (h1 : l ≤ 1000000) :
    Calls Tryz.prog 231 #[.int .i64 l] w fun e w' => e = .returned (.int .i64 (keyL l)) ∧ Below w.heap.size w w' := (l2Key_any l w h0 h1).mono fun _ _ ⟨h, e⟩ => ⟨h, e ▸ bb _⟩
/-- Literals that are not too great. -/
def Mild (xs : List Int) : Prop := ∀ x ∈ xs, -1000000 ≤ x ∧ x ≤ 1000000
/-- The first literals that differ decide. -/
def lexB : List Int → List Int → Bool
  | x :: xs, y :: ys => if x = y then lexB xs ys else decide (keyL x < keyL y)
  | _, _ => false
/-- The order of clauses. -/
def beforeB (a b : List Int) : Bool := if a.length = b.length then lexB a b else decide (a.length < b.length)
theorem lexB_same : ∀ (p a b : List Int), lexB (p ++ a) (p ++ b) = lexB a b
  | [], _, _ => rfl
  | x :: p, a, b => by rw [List.cons_append, List.cons_append, lexB, if_pos rfl, lexB_same p a b]
theorem lexB_at {a b : List Int} {k : Nat} (ha : k < a.length) (hb : k < b.length) (h : a.take k = b.take k) : lexB a b = if a[k] = b[k] then lexB (a.drop (k + 1)) (b.drop (k + 1)) else decide (keyL a[k] < keyL b[k]) := by
  conv => lhs; rw [← List.take_append_drop k a, ← List.take_append_drop k b, h, lexB_same, List.drop_eq_getElem_cons ha, List.drop_eq_getElem_cons hb, lexB]
theorem lexB_self (a : List Int) : lexB a a = false := by
  have := lexB_same a [] []
  simpa [lexB] using this

set_option maxHeartbeats 1000000 in
theorem l2Before_any (v u : Value) (xs ys : List Int) (F G : List Nat) (w : World) (hx : Ty.int.row false w v xs F) (hy : Ty.int.row false w u ys G) (mx : Mild xs) (my : Mild ys) :
    Calls Tryz.prog 198 #[v, u] w fun e w' => e = .returned (.bool (beforeB xs ys)) ∧ Below w.heap.size w w' := by
  obtain ⟨a, c, rfl, hx1, hx2, _, hx3⟩ := row_int hx
  obtain ⟨a', c', rfl, hy1, hy2, _, hy3⟩ := row_int hy
  by_cases hl : xs.length = ys.length
  case neg =>
    have hne : ((xs.length : Int) == (ys.length : Int)) = false := by simp; omega
    have hd : Hid (beforeB xs ys = decide (xs.length < ys.length)) := if_neg hl
    clear hl
    go_enter Tryz.func198, Tryz.ntmps198
    go_wp2_with fail
    go_ret
    exact ⟨ret_bool (by rw [hd.out]), bb _⟩
  have hne : ((xs.length : Int) == (ys.length : Int)) = true := by simp; omega
  have hd : Hid (beforeB xs ys = lexB xs ys) := if_pos hl
  replace hl := (show Hid (xs.length = ys.length) from hl)
  go_enter Tryz.func198, Tryz.ntmps198
  go_wp2_with fail
  go_loopw [5] (fun i wr => ∃ k : Nat, k ≤ xs.length ∧ i = .int .i64 k ∧ Hid (xs.take k = ys.take k) ∧ Below w.heap.size w wr) (fun i _ => xs.length - (intOf i).toNat)
  case atStart => exact ⟨0, Nat.zero_le _, rfl, by simp [Hid], bb _⟩
  case round =>
    obtain ⟨k, hk, rfl, HR, hB⟩ := hrel
    by_cases hlt : k < xs.length
    · rcases hx3 with ⟨rfl, rfl⟩ | ⟨hxn, b, off, rfl, rfl, hxc⟩
      · exact absurd hlt (by simp)
      have hlt' : k < ys.length := by have := hl.out; omega
      rcases hy3 with ⟨rfl, rfl⟩ | ⟨hyn, b', off', rfl, rfl, hyc⟩
      · exact absurd hlt' (by simp)
      have k0 := cell_regrown ((hxc k hlt).keep (hB.block b (hxc k hlt).lt)).1
      have k1 := cell_regrown ((hyc k hlt').keep (hB.block b' (hyc k hlt').lt)).1
      have HS : Hid (xs.take (k + 1) = ys.take (k + 1) ↔ xs[k] = ys[k]) := by
        unfold Hid
        rw [List.take_succ_eq_append_getElem hlt, List.take_succ_eq_append_getElem hlt', HR.out]
        exact ⟨fun h => by have := List.append_cancel_left h; simpa using this, fun h => by rw [h]⟩
      by_cases he : xs[k] = ys[k]
      · have he' : (xs[k] != ys[k]) = false := by simpa using he
        have HN : Hid (xs.take (k + 1) = ys.take (k + 1)) := HS.out.2 he
        clear he HS
        go_wp2_with fail
        refine wp_region_quiet_below (by kernel_rfl) (by kernel_rfl) ?_
        repeat (any_goals (go_big_quiet_step (fail)))
        refine wpQuiet_nil ?_
        rintro w1 ⟨p, rfl⟩
        go_wp2_with fail
        go_roundw
        case rel => exact ⟨k + 1, by omega, by go_num, HN, hB.trans ((below_regrown _ _ _).mono hB.size)⟩
        case measure => simp [intOf]; omega
      · have he' : (xs[k] != ys[k]) = true := by simpa using he
        have m1 := mx _ (List.getElem_mem hlt)
        have m2 := my _ (List.getElem_mem hlt')
        have HN : Hid (beforeB xs ys = decide (keyL xs[k] < keyL ys[k])) := by
          unfold Hid
          rw [hd.out, lexB_at hlt hlt' HR.out, if_neg he]
        obtain ⟨m3, m4⟩ := m1
        obtain ⟨m5, m6⟩ := m2
        clear he HS
        go_wp2_with fail
        refine wp_region_quiet_below (by kernel_rfl) (by kernel_rfl) ?_
        repeat (any_goals (go_big_quiet_step (fail)))
        refine wpQuiet_nil ?_
        rintro w1 hw1
        have hb1 : Below wr.heap.size wr w1 := by obtain ⟨p, rfl⟩ := hw1; exact below_regrown _ _ _
        clear hw1
        have hB1 := hB.trans (hb1.mono hB.size)
        have k2 := cell_regrown ((hxc k hlt).keep (hB1.block b (hxc k hlt).lt)).1
        have k3 := cell_regrown ((hyc k hlt').keep (hB1.block b' (hyc k hlt').lt)).1
        clear k0 k1 hb1
        go_wp2_with fail
        refine wp_region_quiet_below (by kernel_rfl) (by kernel_rfl) ?_
        repeat (any_goals (first | go_big_quiet_step ((go_at_call 231; exact Calls.regrown_of (l2Key_b (by assumption) (by assumption))))))
        refine wpQuiet_nil ?_
        rintro w2 hw2
        have hb2 : Below w1.heap.size w1 w2 := by obtain ⟨p, rfl⟩ := hw2; exact below_regrown _ _ _
        clear hw2
        have hB2 := hB1.trans (hb2.mono hB1.size)
        go_wp2_with fail
        go_ret
        exact ⟨ret_bool HN.out.symm, hB2⟩
    · go_wp2_with fail
      go_ret
      have : xs = ys := by
        have h1 := HR.out
        rwa [List.take_of_length_le (by omega), List.take_of_length_le (by have := hl.out; omega)] at h1
      exact ⟨ret_bool (by rw [hd.out, this, lexB_self]), hB⟩
end Go.Proofs.YtahbepajeplcmaaGreatDoor

/- Contracts: clauses in the reference: a literal put in, a variable left out, resolvents. -/
namespace Go.Proofs.YtahbepajeplcmaaGreatDoor
open Go.RowKit

/-- A clause without a variable. -/
def withoutB (c : List Int) (v : Int) : List Int := c.filter (fun l => !(absV l == v))
theorem without_step {c : List Int} {v : Int} {k : Nat} {q : Bool} (hk : k < c.length) (h : (absV c[k] == v) = q) : withoutB (c.take (k + 1)) v = withoutB (c.take k) v ++ (if q then [] else [c[k]]) := by
  unfold withoutB
  rw [List.take_succ_eq_append_getElem hk, List.filter_append]
  cases q <;> simp [h]
theorem without_len (c : List Int) (v : Int) (k : Nat) : (withoutB (c.take k) v).length ≤ k := Nat.le_trans (List.length_filter_le _ _) (by rw [List.length_take]; omega)

set_option maxRecDepth 100000 in
set_option maxHeartbeats 2000000 in
theorem l2Without_any (u : Value) (c : List Int) (v : Int) (F : List Nat) (w : World) (hx : Ty.int.row false w u c F) (hc : c.length ≤ 10000000000) :
    Calls Tryz.prog 89 #[u, .int .i64 v] w (OwnsPost w (withoutB c v)) := by
  obtain ⟨i0, hi, hz0, hz1, hz2⟩ := info_parts infoInt
  obtain ⟨ad, cap, rfl, hx1, hx2, hxI, hx3⟩ := row_int hx
  have S0 := (Sp.start w).own_made 3 1
  replace S0 := Lib.hid S0
  go_enter Tryz.func89, Tryz.ntmps89
  go_wp2_with fail
  go_loopw [5, 6] (fun s i wr => ∃ k : Nat, k ≤ c.length ∧ i = .int .i64 k ∧ Sp w wr [Own 3 1 s (withoutB (c.take k) v).length ((withoutB (c.take k) v).map (.int .i64))]) (fun _ i _ => c.length - (intOf i).toNat)
  case atStart => exact ⟨0, Nat.zero_le _, rfl, S0.out⟩
  case round =>
    obtain ⟨k, hk, rfl, HS⟩ := hrel
    have hB := HS.below
    have hown := HS.own (i := 0) rfl
    have hlen := without_len c v k
    obtain ⟨sa, sc, rfl⟩ := owns_form hown
    replace HS := Lib.hid HS
    replace hown := Lib.hid hown
    by_cases hlt : k < c.length
    · rcases hx3 with ⟨rfl, rfl⟩ | ⟨hxn, b, off, rfl, rfl, hxc⟩
      · exact absurd hlt (by simp)
      have k0 := ((hxc k hlt).keep (hB.block b (hxc k hlt).lt)).1
      cases hq : absV c[k] == v
      · have HT : Hid (withoutB (c.take (k + 1)) v = withoutB (c.take k) v ++ [c[k]]) := without_step hlt hq
        have hq' : (absV c[k] != v) = true := by simp [bne, hq]
        have ho2 := Lib.hid ((HS.out.alloc (.cells #[.int .i64 c[k]] 3)).own (i := 0) rfl)
        go_wp2_with (first
          | (go_at_call 145; (with_reducible refine (l2Var_any _ _).mono ?_); rintro e w1 ⟨rfl, rfl⟩)
          | (at_builtin; refine wpList_append_src rfl _ _ rfl Tryz.underlying43 hi hz0 hz1 hz2 rfl (by decide) _ _ _ rfl ho2.out (some ⟨wr.heap.size, 0, none⟩) 1 1 [.int .i64 c[k]] rfl (Src.one (by simp [go_sem])) (by simp [Value.oneCell']) (by unfold maxLen; omega) (by omega) ?_))
        intro v' w1 hown1 hg1 hat1
        have HN := (HS.out.alloc _).own_push (i := 0) rfl (bb _) hown1 hg1 (by simpa using hat1)
        have HN2 : Sp w w1 [Own 3 1 v' (withoutB (c.take (k + 1)) v).length ((withoutB (c.take (k + 1)) v).map (.int .i64))] := by rw [HT.out, List.length_append, List.map_append]; exact HN
        replace HN2 := Lib.hid HN2
        clear HN hown1 hg1 hat1 HS hown
        go_wp2_with fail
        go_roundw
        case rel => exact ⟨k + 1, by omega, by go_num, HN2.out⟩
        case measure => simp [intOf]; omega
      · have HT : Hid (withoutB (c.take (k + 1)) v = withoutB (c.take k) v) := (without_step hlt hq).trans (List.append_nil _)
        have hq' : (absV c[k] != v) = false := by simp [bne, hq]
        go_wp2_with (go_at_call 145; (with_reducible refine (l2Var_any _ _).mono ?_); rintro e w1 ⟨rfl, rfl⟩)
        go_roundw
        case rel => exact ⟨k + 1, by omega, by go_num, by rw [HT.out]; exact HS.out⟩
        case measure => simp [intOf]; omega
    · obtain rfl : k = c.length := by omega
      have h := HS.out
      rw [List.take_length] at h
      have ho := h.owns_end (i := 0) rfl
      replace ho := Lib.hid ho
      clear hown HS h
      go_wp2_with fail
      go_ret
      rw [List.take_length] at *
      exact ⟨_, rfl, ho.out, hB⟩

theorem row_int_take {wr : Bool} {w : World} {a : Option Addr} {n cap : Nat} {xs : List Int} {F : List Nat} {k : Nat} (h : Ty.int.row wr w (.slice a n cap) xs F) (hk : k ≤ xs.length) :
    ∃ F', Ty.int.row wr w (.slice a k cap) (xs.take k) F' ∧ ∀ b ∈ F', b ∈ F := by
  obtain ⟨a', cap', e, h1, h2, hI, h3⟩ := row_int h
  simp only [Value.slice.injEq] at e
  obtain ⟨rfl, rfl, rfl⟩ := e
  have hl : (xs.take k).length = k := by rw [List.length_take]; omega
  by_cases h0 : k = 0
  · subst h0
    exact ⟨[], Ty.row_nil _ _ _ _ _ h2, by simp⟩
  · rcases h3 with ⟨rfl, rfl⟩ | ⟨hne, b, off, rfl, rfl, hc⟩
    · simp at hk; omega
    · refine ⟨[b], ?_, fun _ h => h⟩
      have := row_int_mk (wr := wr) (w := w) (b := b) (off := off) (cap := cap) (xs := xs.take k) (fun x hx => hI x (List.mem_of_mem_take hx)) (by omega) h2 (by intro e; rw [e] at hl; simp at hl; omega) (fun j hj => by
        rw [List.getElem_take]
        exact hc j (by omega))
      rw [hl] at this
      exact this
/-- The rest of a row, as a source. -/
theorem row_int_from {wr : Bool} {w : World} {a : Option Addr} {n cap : Nat} {xs : List Int} {F : List Nat} {k : Nat} (h : Ty.int.row wr w (.slice a n cap) xs F) (hk : k ≤ xs.length) :
    Src w (cutA a cap k 1) (xs.length - k) 1 ((xs.drop k).map (.int .i64)) := by
  obtain ⟨A, c, e, hs⟩ := row_src_int h
  obtain ⟨a', cap', e', h1, h2, hI, h3⟩ := row_int h
  simp only [Value.slice.injEq] at e e'
  obtain ⟨rfl, rfl, rfl⟩ := e
  obtain ⟨rfl, _, rfl⟩ := e'
  rcases h3 with ⟨rfl, rfl⟩ | ⟨hne, b, off, rfl, rfl, hc⟩
  · exact .inl ⟨by simp, by simp⟩
  · have := hs.from hk h1
    rw [Nat.mul_one] at this
    rw [List.map_drop]
    exact this

/-- Where a literal goes. -/
def litAt (c : List Int) (l : Int) : Nat := (c.takeWhile (fun x => decide (absV x < absV l))).length
/-- A clause with a literal put in. -/
def putB (c : List Int) (l : Int) : List Int := c.take (litAt c l) ++ l :: c.drop (litAt c l)
theorem litAt_end {c : List Int} {l : Int} {k : Nat} (h : (c.take k).all (fun x => decide (absV x < absV l)) = true) (hk : k ≤ c.length) (he : k = c.length ∨ ∃ h : k < c.length, ¬ absV c[k] < absV l) : litAt c l = k := by
  unfold litAt
  have h1 : c.takeWhile (fun x => decide (absV x < absV l)) = c.take k := by
    conv => lhs; rw [← List.take_append_drop k c]
    rw [List.takeWhile_append_of_pos (by simpa [List.all_eq_true] using h)]
    rcases he with rfl | ⟨hlt, hn⟩
    · simp
    · rw [List.drop_eq_getElem_cons hlt, List.takeWhile_cons, if_neg (by simpa using hn), List.append_nil]
  rw [h1, List.length_take]; omega
theorem put_len (c : List Int) (l : Int) : (putB c l).length = c.length + 1 := by
  unfold putB
  have : litAt c l ≤ c.length := by unfold litAt; exact (List.takeWhile_sublist _).length_le
  simp; omega

set_option maxRecDepth 100000 in
set_option maxHeartbeats 4000000 in
theorem l2Put_any (u : Value) (c : List Int) (l : Int) (F : List Nat) (w : World) (hx : Ty.int.row false w u c F) (hc : c.length ≤ 1000000000) :
    Calls Tryz.prog 147 #[u, .int .i64 l] w (OwnsPost w (putB c l)) := by
  obtain ⟨i0, hi, hz0, hz1, hz2⟩ := info_parts infoInt
  obtain ⟨ad, cap, rfl, hx1, hx2, hxI, hx3⟩ := row_int hx
  go_enter Tryz.func147, Tryz.ntmps147
  go_wp2_with fail
  go_loop [5] (fun i => ∃ k : Nat, k ≤ c.length ∧ i = .int .i64 k ∧ Hid ((c.take k).all (fun x => decide (absV x < absV l)) = true)) (fun i => c.length - (intOf i).toNat)
  case atStart => exact ⟨0, Nat.zero_le _, rfl, by simp [Hid]⟩
  case round =>
    obtain ⟨k, hk, rfl, HR⟩ := hrel
    by_cases hgo : ∃ h : k < c.length, absV c[k] < absV l
    · obtain ⟨hlt, hgo⟩ := hgo
      rcases hx3 with ⟨rfl, rfl⟩ | ⟨hxn, b, off, rfl, rfl, hxc⟩
      · exact absurd hlt (by simp)
      have k0 := (hxc k hlt).1
      have HN : Hid ((c.take (k + 1)).all (fun x => decide (absV x < absV l)) = true) := by
        unfold Hid
        rw [List.take_succ_eq_append_getElem hlt, List.all_append, HR.out]
        simp [hgo]
      have hd : decide (absV c[k] < absV l) = true := by simpa using hgo
      clear HR
      go_wp2_with (go_at_call 145; (with_reducible refine (l2Var_any _ _).mono ?_); rintro e w1 ⟨rfl, rfl⟩)
      go_round
      case rel => exact ⟨k + 1, by omega, by go_num, HN⟩
      case measure => simp [intOf]; omega
    · have hat : Hid (litAt c l = k) := by
        refine litAt_end HR.out hk ?_
        by_cases h : k < c.length
        · exact .inr ⟨h, fun h2 => hgo ⟨h, h2⟩⟩
        · exact .inl (by omega)
      have hto := row_int_take (k := k) (Ty.row_grow hx (bdr (bb w))) hk
      obtain ⟨F', hto, _⟩ := hto
      have hfr := Lib.hid (row_int_from (k := k) hx hk)
      have hP : Hid (putB c l = c.take k ++ l :: c.drop k) := by unfold Hid putB; rw [hat.out]
      have hlk : (c.take k).length = k := by rw [List.length_take]; omega
      replace hto := Lib.hid hto
      have h9 : c.length - k ≤ c.length := by omega
      by_cases hlt : k < c.length
      · rcases hx3 with ⟨rfl, rfl⟩ | ⟨hxn, b, off, rfl, rfl, hxc⟩
        · exact absurd hlt (by simp)
        have k0 := (hxc k hlt).1
        have hd : decide (absV c[k] < absV l) = false := by simpa using fun h2 => hgo ⟨hlt, h2⟩
        clear hgo HR hat
        go_wp2_with (go_at_call 145; (with_reducible refine (l2Var_any _ _).mono ?_); rintro e w1 ⟨rfl, rfl⟩)
        refine wp_region_tail (S := (fun _ => True)) 10 (by kernel_rfl) (by kernel_rfl) ?_ ?_
        · trivial
        intro hS
        (refine walkT_take (i := 0) (v := ?_) rfl (by kernel_rfl) (by decide) (by kernel_rfl) (by kernel_rfl) (fun _ _ _ h => h) (Or.inl ⟨by rfl, ?_⟩) (by assumption) ?_; rotate_left; (focus (intro w hSw; (try dsimp only at hSw); go_simp; (try with_reducible rfl); done)); (try simp only [put_rules]))
        (refine walkT_take (i := 1) (v := ?_) rfl (by kernel_rfl) (by decide) (by kernel_rfl) (by kernel_rfl) (fun _ _ _ h => h) (Or.inl ⟨by rfl, ?_⟩) (by assumption) ?_; rotate_left; (focus (intro w hSw; (try dsimp only at hSw); go_simp; (try with_reducible rfl); done)); (try simp only [put_rules]))
        (refine walkT_take (i := 2) (v := .slice _ k cap) rfl (by kernel_rfl) (by decide) (by kernel_rfl) (by kernel_rfl) (fun _ _ _ h => h) (Or.inl ⟨by rfl, fun _ _ => exec_slice_to rfl rfl rfl Tryz.underlying43 hi (by omega)⟩) (by assumption) ?_; (try simp only [put_rules]))
        (refine walkT_take (i := 4) (v := ?_) rfl (by kernel_rfl) (by decide) (by kernel_rfl) (by kernel_rfl) (fun _ _ _ h => h) (Or.inl ⟨by rfl, ?_⟩) (by assumption) ?_; rotate_left; (focus (intro w hSw; (try dsimp only at hSw); go_simp; (try with_reducible rfl); done)); (try simp only [put_rules]))
        (refine walkT_take (i := 7) (v := ?_) rfl (by kernel_rfl) (by decide) (by kernel_rfl) (by kernel_rfl) (fun _ _ _ h => h) (Or.inl ⟨by rfl, ?_⟩) (by assumption) ?_; rotate_left; (focus (intro w hSw; (try dsimp only at hSw); go_simp; (try with_reducible rfl); done)); (try simp only [put_rules]))
        (refine walkT_take (i := 8) (v := ?_) rfl (by kernel_rfl) (by decide) (by kernel_rfl) (by kernel_rfl) (fun _ _ _ h => h) (Or.inl ⟨by rfl, ?_⟩) (by assumption) ?_; rotate_left; (focus (intro w hSw; (try dsimp only at hSw); go_simp; (try with_reducible rfl); done)); (try simp only [put_rules]))
        (refine walkT_take (i := 9) (v := .slice (cutA _ cap k 1) (c.length - k) (cap - k)) rfl (by kernel_rfl) (by decide) (by kernel_rfl) (by kernel_rfl) (fun _ _ _ h => h) (Or.inl ⟨by rfl, fun _ _ => exec_slice_from rfl rfl rfl Tryz.underlying43 hi hz1 (by omega)⟩) (by assumption) ?_; (try simp only [put_rules]))
        (refine walkT_ready (rs := [3, 5]) (by kernel_rfl) (by simp) (by decide) ?_; refine AllT.cons rfl (fun K hK => ?_) (AllT.cons rfl (fun K hK => ?_) AllT.nil))
        · go_simp
          go_at_call 116
          refine (l1Own_any _ (c.take k) F' _ hto.out (by omega)).mono ?_
          rintro e w1 ⟨v1, rfl, ho1, hb1⟩
          rw [hlk] at ho1
          obtain ⟨a1, c1, rfl⟩ := owns_form ho1
          have S1 := Lib.hid ((Sp.start w).drew.own_call hb1 ho1)
          clear ho1
          go_wp2_with fail
          refine hK.out _ _ trivial (fun _ => ?_)
          clear hK
          (try simp only [put_rules])
          (refine walkT_ready (rs := [5]) (by kernel_rfl) (by simp) (by decide) ?_; refine AllT.cons rfl (fun K hK => ?_) AllT.nil)
          go_simp
          refine hK.out _ _ trivial (fun _ => ?_)
          clear hK
          (try simp only [put_rules])
          (refine walkT_ready (rs := [6]) (by kernel_rfl) (by simp) (by decide) ?_; refine AllT.cons rfl (fun K hK => ?_) AllT.nil)
          have S2 := Lib.hid (S1.out.alloc (.cells #[.int .i64 l] 3))
          (refine step_append_src rfl _ _ rfl Tryz.underlying43 hi hz0 hz1 hz2 rfl (by decide) _ k _ rfl (S2.out.own (i := 0) rfl) (some ⟨w1.heap.size, 0, none⟩) 1 1 [.int .i64 l] rfl (Src.one (by simp [go_sem])) (by simp [Value.oneCell']) (by unfold maxLen; omega) (by omega) ?_; intro v2 w2 hown2 hg2 hat2)
          have S3 := Lib.hid (S2.out.own_push (i := 0) rfl (bb _) hown2 hg2 hat2)
          obtain ⟨a2, c2, rfl⟩ := owns_form hown2
          clear hown2 hg2 hat2 S2 S1
          refine hK.out _ _ trivial (fun _ => ?_)
          clear hK
          (try simp only [put_rules])
          (refine walkT_done (by kernel_rfl) ?_)
          simp only [List.drop_succ_cons, List.drop_zero]
          have hfr2 := hfr.out.grow S3.out.below
          (refine wpList_append_src rfl _ _ rfl Tryz.underlying43 hi hz0 hz1 hz2 rfl (by decide) _ (k + 1) _ rfl (S3.out.own (i := 0) rfl) _ (c.length - k) _ _ rfl hfr2 (ints_one _) (by unfold maxLen; omega) (by omega) ?_; intro v5 w5 hown5 hg5 hat5)
          have S5 := S3.out.own_push (i := 0) rfl (bb _) hown5 hg5 hat5
          have ho5 := S5.owns_end (i := 0) rfl
          have hB5 := S5.below
          obtain ⟨a5, c5, rfl⟩ := owns_form ho5
          have hf : OwnsPost w (putB c l) (.returned (.slice a5 (k + 1 + (c.length - k)) c5)) w5 := by
            refine ⟨_, rfl, ?_, hB5⟩
            rw [hP.out]
            have e : (c.take k ++ l :: c.drop k).length = k + 1 + (c.length - k) := by rw [List.length_append, List.length_cons, List.length_drop, hlk]; omega
            rw [e]
            simpa using ho5
          replace hf := Lib.hid hf
          clear S5 ho5 hown5 hg5 hat5 S3 hfr2
          go_wp2_with fail
          go_ret
          exact hf.out
        · go_simp
          have S0 := Lib.hid ((Sp.start w).drew.alloc_box #[.int .i64 l] 3)
          refine hK.out _ _ trivial (fun _ => ?_)
          clear hK
          (try simp only [put_rules])
          (refine walkT_ready (rs := [3]) (by kernel_rfl) (by simp) (by decide) ?_; refine AllT.cons rfl (fun K hK => ?_) AllT.nil)
          go_simp
          go_at_call 116
          refine (l1Own_any _ (c.take k) F' _ (Ty.row_grow hto.out (bal (bb _) _)) (by omega)).mono ?_
          rintro e w1 ⟨v1, rfl, ho1, hb1⟩
          rw [hlk] at ho1
          obtain ⟨a1, c1, rfl⟩ := owns_form ho1
          have S1 := Lib.hid (S0.out.own_call hb1 ho1)
          have k9 : w1.cell? ⟨w.heap.size, 0, none⟩ = some (.int .i64 l) := S1.out.cell (i := 1) rfl (o := 0) rfl
          clear ho1 S0
          go_wp2_with fail
          refine hK.out _ _ trivial (fun _ => ?_)
          clear hK
          (try simp only [put_rules])
          (refine walkT_ready (rs := [6]) (by kernel_rfl) (by simp) (by decide) ?_; refine AllT.cons rfl (fun K hK => ?_) AllT.nil)
          (refine step_append_src rfl _ _ rfl Tryz.underlying43 hi hz0 hz1 hz2 rfl (by decide) _ k _ rfl (S1.out.own (i := 0) rfl) (some ⟨w.heap.size, 0, none⟩) 1 1 [.int .i64 l] rfl (Src.one k9) (by simp [Value.oneCell']) (by unfold maxLen; omega) (by omega) ?_; intro v2 w2 hown2 hg2 hat2)
          have S3 := Lib.hid (S1.out.own_push (i := 0) rfl (bb _) hown2 hg2 hat2)
          obtain ⟨a2, c2, rfl⟩ := owns_form hown2
          clear hown2 hg2 hat2 S1 k9
          refine hK.out _ _ trivial (fun _ => ?_)
          clear hK
          (try simp only [put_rules])
          (refine walkT_done (by kernel_rfl) ?_)
          simp only [List.drop_succ_cons, List.drop_zero]
          have hfr2 := hfr.out.grow S3.out.below
          (refine wpList_append_src rfl _ _ rfl Tryz.underlying43 hi hz0 hz1 hz2 rfl (by decide) _ (k + 1) _ rfl (S3.out.own (i := 0) rfl) _ (c.length - k) _ _ rfl hfr2 (ints_one _) (by unfold maxLen; omega) (by omega) ?_; intro v5 w5 hown5 hg5 hat5)
          have S5 := S3.out.own_push (i := 0) rfl (bb _) hown5 hg5 hat5
          have ho5 := S5.owns_end (i := 0) rfl
          have hB5 := S5.below
          obtain ⟨a5, c5, rfl⟩ := owns_form ho5
          have hf : OwnsPost w (putB c l) (.returned (.slice a5 (k + 1 + (c.length - k)) c5)) w5 := by
            refine ⟨_, rfl, ?_, hB5⟩
            rw [hP.out]
            have e : (c.take k ++ l :: c.drop k).length = k + 1 + (c.length - k) := by rw [List.length_append, List.length_cons, List.length_drop, hlk]; omega
            rw [e]
            simpa using ho5
          replace hf := Lib.hid hf
          clear S5 ho5 hown5 hg5 hat5 S3 hfr2
          go_wp2_with fail
          go_ret
          exact hf.out
      · clear hgo HR hat
        go_wp2_with fail
        refine wp_region_tail (S := (fun _ => True)) 10 (by kernel_rfl) (by kernel_rfl) ?_ ?_
        · trivial
        intro hS
        (refine walkT_take (i := 0) (v := ?_) rfl (by kernel_rfl) (by decide) (by kernel_rfl) (by kernel_rfl) (fun _ _ _ h => h) (Or.inl ⟨by rfl, ?_⟩) (by assumption) ?_; rotate_left; (focus (intro w hSw; (try dsimp only at hSw); go_simp; (try with_reducible rfl); done)); (try simp only [put_rules]))
        (refine walkT_take (i := 1) (v := ?_) rfl (by kernel_rfl) (by decide) (by kernel_rfl) (by kernel_rfl) (fun _ _ _ h => h) (Or.inl ⟨by rfl, ?_⟩) (by assumption) ?_; rotate_left; (focus (intro w hSw; (try dsimp only at hSw); go_simp; (try with_reducible rfl); done)); (try simp only [put_rules]))
        (refine walkT_take (i := 2) (v := .slice _ k cap) rfl (by kernel_rfl) (by decide) (by kernel_rfl) (by kernel_rfl) (fun _ _ _ h => h) (Or.inl ⟨by rfl, fun _ _ => exec_slice_to rfl rfl rfl Tryz.underlying43 hi (by omega)⟩) (by assumption) ?_; (try simp only [put_rules]))
        (refine walkT_take (i := 4) (v := ?_) rfl (by kernel_rfl) (by decide) (by kernel_rfl) (by kernel_rfl) (fun _ _ _ h => h) (Or.inl ⟨by rfl, ?_⟩) (by assumption) ?_; rotate_left; (focus (intro w hSw; (try dsimp only at hSw); go_simp; (try with_reducible rfl); done)); (try simp only [put_rules]))
        (refine walkT_take (i := 7) (v := ?_) rfl (by kernel_rfl) (by decide) (by kernel_rfl) (by kernel_rfl) (fun _ _ _ h => h) (Or.inl ⟨by rfl, ?_⟩) (by assumption) ?_; rotate_left; (focus (intro w hSw; (try dsimp only at hSw); go_simp; (try with_reducible rfl); done)); (try simp only [put_rules]))
        (refine walkT_take (i := 8) (v := ?_) rfl (by kernel_rfl) (by decide) (by kernel_rfl) (by kernel_rfl) (fun _ _ _ h => h) (Or.inl ⟨by rfl, ?_⟩) (by assumption) ?_; rotate_left; (focus (intro w hSw; (try dsimp only at hSw); go_simp; (try with_reducible rfl); done)); (try simp only [put_rules]))
        (refine walkT_take (i := 9) (v := .slice (cutA _ cap k 1) (c.length - k) (cap - k)) rfl (by kernel_rfl) (by decide) (by kernel_rfl) (by kernel_rfl) (fun _ _ _ h => h) (Or.inl ⟨by rfl, fun _ _ => exec_slice_from rfl rfl rfl Tryz.underlying43 hi hz1 (by omega)⟩) (by assumption) ?_; (try simp only [put_rules]))
        (refine walkT_ready (rs := [3, 5]) (by kernel_rfl) (by simp) (by decide) ?_; refine AllT.cons rfl (fun K hK => ?_) (AllT.cons rfl (fun K hK => ?_) AllT.nil))
        · go_simp
          go_at_call 116
          refine (l1Own_any _ (c.take k) F' _ hto.out (by omega)).mono ?_
          rintro e w1 ⟨v1, rfl, ho1, hb1⟩
          rw [hlk] at ho1
          obtain ⟨a1, c1, rfl⟩ := owns_form ho1
          have S1 := Lib.hid ((Sp.start w).drew.own_call hb1 ho1)
          clear ho1
          go_wp2_with fail
          refine hK.out _ _ trivial (fun _ => ?_)
          clear hK
          (try simp only [put_rules])
          (refine walkT_ready (rs := [5]) (by kernel_rfl) (by simp) (by decide) ?_; refine AllT.cons rfl (fun K hK => ?_) AllT.nil)
          go_simp
          refine hK.out _ _ trivial (fun _ => ?_)
          clear hK
          (try simp only [put_rules])
          (refine walkT_ready (rs := [6]) (by kernel_rfl) (by simp) (by decide) ?_; refine AllT.cons rfl (fun K hK => ?_) AllT.nil)
          have S2 := Lib.hid (S1.out.alloc (.cells #[.int .i64 l] 3))
          (refine step_append_src rfl _ _ rfl Tryz.underlying43 hi hz0 hz1 hz2 rfl (by decide) _ k _ rfl (S2.out.own (i := 0) rfl) (some ⟨w1.heap.size, 0, none⟩) 1 1 [.int .i64 l] rfl (Src.one (by simp [go_sem])) (by simp [Value.oneCell']) (by unfold maxLen; omega) (by omega) ?_; intro v2 w2 hown2 hg2 hat2)
          have S3 := Lib.hid (S2.out.own_push (i := 0) rfl (bb _) hown2 hg2 hat2)
          obtain ⟨a2, c2, rfl⟩ := owns_form hown2
          clear hown2 hg2 hat2 S2 S1
          refine hK.out _ _ trivial (fun _ => ?_)
          clear hK
          (try simp only [put_rules])
          (refine walkT_done (by kernel_rfl) ?_)
          simp only [List.drop_succ_cons, List.drop_zero]
          have hfr2 := hfr.out.grow S3.out.below
          (refine wpList_append_src rfl _ _ rfl Tryz.underlying43 hi hz0 hz1 hz2 rfl (by decide) _ (k + 1) _ rfl (S3.out.own (i := 0) rfl) _ (c.length - k) _ _ rfl hfr2 (ints_one _) (by unfold maxLen; omega) (by omega) ?_; intro v5 w5 hown5 hg5 hat5)
          have S5 := S3.out.own_push (i := 0) rfl (bb _) hown5 hg5 hat5
          have ho5 := S5.owns_end (i := 0) rfl
          have hB5 := S5.below
          obtain ⟨a5, c5, rfl⟩ := owns_form ho5
          have hf : OwnsPost w (putB c l) (.returned (.slice a5 (k + 1 + (c.length - k)) c5)) w5 := by
            refine ⟨_, rfl, ?_, hB5⟩
            rw [hP.out]
            have e : (c.take k ++ l :: c.drop k).length = k + 1 + (c.length - k) := by rw [List.length_append, List.length_cons, List.length_drop, hlk]; omega
            rw [e]
            simpa using ho5
          replace hf := Lib.hid hf
          clear S5 ho5 hown5 hg5 hat5 S3 hfr2
          go_wp2_with fail
          go_ret
          exact hf.out
        · go_simp
          have S0 := Lib.hid ((Sp.start w).drew.alloc_box #[.int .i64 l] 3)
          refine hK.out _ _ trivial (fun _ => ?_)
          clear hK
          (try simp only [put_rules])
          (refine walkT_ready (rs := [3]) (by kernel_rfl) (by simp) (by decide) ?_; refine AllT.cons rfl (fun K hK => ?_) AllT.nil)
          go_simp
          go_at_call 116
          refine (l1Own_any _ (c.take k) F' _ (Ty.row_grow hto.out (bal (bb _) _)) (by omega)).mono ?_
          rintro e w1 ⟨v1, rfl, ho1, hb1⟩
          rw [hlk] at ho1
          obtain ⟨a1, c1, rfl⟩ := owns_form ho1
          have S1 := Lib.hid (S0.out.own_call hb1 ho1)
          have k9 : w1.cell? ⟨w.heap.size, 0, none⟩ = some (.int .i64 l) := S1.out.cell (i := 1) rfl (o := 0) rfl
          clear ho1 S0
          go_wp2_with fail
          refine hK.out _ _ trivial (fun _ => ?_)
          clear hK
          (try simp only [put_rules])
          (refine walkT_ready (rs := [6]) (by kernel_rfl) (by simp) (by decide) ?_; refine AllT.cons rfl (fun K hK => ?_) AllT.nil)
          (refine step_append_src rfl _ _ rfl Tryz.underlying43 hi hz0 hz1 hz2 rfl (by decide) _ k _ rfl (S1.out.own (i := 0) rfl) (some ⟨w.heap.size, 0, none⟩) 1 1 [.int .i64 l] rfl (Src.one k9) (by simp [Value.oneCell']) (by unfold maxLen; omega) (by omega) ?_; intro v2 w2 hown2 hg2 hat2)
          have S3 := Lib.hid (S1.out.own_push (i := 0) rfl (bb _) hown2 hg2 hat2)
          obtain ⟨a2, c2, rfl⟩ := owns_form hown2
          clear hown2 hg2 hat2 S1 k9
          refine hK.out _ _ trivial (fun _ => ?_)
          clear hK
          (try simp only [put_rules])
          (refine walkT_done (by kernel_rfl) ?_)
          simp only [List.drop_succ_cons, List.drop_zero]
          have hfr2 := hfr.out.grow S3.out.below
          (refine wpList_append_src rfl _ _ rfl Tryz.underlying43 hi hz0 hz1 hz2 rfl (by decide) _ (k + 1) _ rfl (S3.out.own (i := 0) rfl) _ (c.length - k) _ _ rfl hfr2 (ints_one _) (by unfold maxLen; omega) (by omega) ?_; intro v5 w5 hown5 hg5 hat5)
          have S5 := S3.out.own_push (i := 0) rfl (bb _) hown5 hg5 hat5
          have ho5 := S5.owns_end (i := 0) rfl
          have hB5 := S5.below
          obtain ⟨a5, c5, rfl⟩ := owns_form ho5
          have hf : OwnsPost w (putB c l) (.returned (.slice a5 (k + 1 + (c.length - k)) c5)) w5 := by
            refine ⟨_, rfl, ?_, hB5⟩
            rw [hP.out]
            have e : (c.take k ++ l :: c.drop k).length = k + 1 + (c.length - k) := by rw [List.length_append, List.length_cons, List.length_drop, hlk]; omega
            rw [e]
            simpa using ho5
          replace hf := Lib.hid hf
          clear S5 ho5 hown5 hg5 hat5 S3 hfr2
          go_wp2_with fail
          go_ret
          exact hf.out
end Go.Proofs.YtahbepajeplcmaaGreatDoor

/- Plain facts: inequalities over bits. No program in sight. -/
namespace Go.Proofs.YtahbepajeplcmaaGreatDoor

/-- The left side of an inequality up to a place, at bits. -/
def sumK (cs : List Int) (bits : Nat) : Nat → Int
  | 0 => 0
  | k + 1 => sumK cs bits k + (if bits.testBit k then cs.getD k 0 else 0)
def holdsQ (cs : List Int) (b : Int) (bits : Nat) : Bool := decide (b ≤ sumK cs bits cs.length)
def coefB (c : Int) : Bool := inB c (-1000) 1000
def goodQ (vars b : Int) (cs : List Int) : Bool := inB vars 0 12 && decide ((cs.length : Int) = vars) && inB b (-10000) 10000 && cs.all coefB
theorem good_q {vars b : Int} {cs : List Int} (h : goodQ vars b cs = true) : (0 ≤ vars ∧ vars ≤ 12) ∧ (cs.length : Int) = vars ∧ (-10000 ≤ b ∧ b ≤ 10000) ∧ ∀ c ∈ cs, -1000 ≤ c ∧ c ≤ 1000 := by
  unfold goodQ at h
  simp only [Bool.and_eq_true, inB, decide_eq_true_eq, List.all_eq_true, coefB] at h
  obtain ⟨⟨⟨h1, h2⟩, h3⟩, h4⟩ := h
  exact ⟨by simpa using h1, h2, by simpa using h3, fun c hc => by simpa using h4 c hc⟩
theorem getD_bound {cs : List Int} {m : Int} (hm : 0 ≤ m) (h : ∀ c ∈ cs, -m ≤ c ∧ c ≤ m) (k : Nat) : -m ≤ cs.getD k 0 ∧ cs.getD k 0 ≤ m := by
  rw [List.getD_eq_getElem?_getD]
  rcases Nat.lt_or_ge k cs.length with hk | hk
  · rw [List.getElem?_eq_getElem hk]; exact h _ (List.getElem_mem hk)
  · rw [List.getElem?_eq_none hk]; simp; omega
theorem sumK_bound {cs : List Int} {m : Int} (hm : 0 ≤ m) (h : ∀ c ∈ cs, -m ≤ c ∧ c ≤ m) (bits : Nat) : ∀ k : Nat, -(m * k) ≤ sumK cs bits k ∧ sumK cs bits k ≤ m * k
  | 0 => by simp [sumK]
  | k + 1 => by
    have h1 := sumK_bound hm h bits k
    have h2 := getD_bound hm h k
    have e : m * ((k + 1 : Nat) : Int) = m * k + m := by rw [Int.natCast_add, Int.mul_add]; simp
    rw [e]
    simp only [sumK]
    split <;> omega
theorem sumK_add {cs ds es : List Int} (bits : Nat) : ∀ k : Nat, (∀ i, i < k → es.getD i 0 = cs.getD i 0 + ds.getD i 0) → sumK es bits k = sumK cs bits k + sumK ds bits k
  | 0, _ => by simp [sumK]
  | k + 1, h => by
    have h1 := sumK_add bits k (fun i hi => h i (by omega))
    have h2 := h k (by omega)
    simp only [sumK]
    rw [h1]
    split
    · rw [h2]; omega
    · omega
theorem sumK_mul {cs ds : List Int} (m : Int) (bits : Nat) : ∀ k : Nat, (∀ i, i < k → cs.getD i 0 = m * ds.getD i 0) → sumK cs bits k = m * sumK ds bits k
  | 0, _ => by simp [sumK]
  | k + 1, h => by
    have h1 := sumK_mul m bits k (fun i hi => h i (by omega))
    have h2 := h k (by omega)
    simp only [sumK]
    rw [h1, Int.mul_add]
    split
    · rw [h2]
    · simp
theorem sumK_congr {cs ds : List Int} (bits : Nat) (k : Nat) (h : ∀ i, i < k → cs.getD i 0 = ds.getD i 0) : sumK cs bits k = sumK ds bits k := by
  have := sumK_mul (cs := cs) (ds := ds) 1 bits k (fun i hi => by rw [Int.one_mul]; exact h i hi)
  rwa [Int.one_mul] at this

/-- The sum of two. -/
def addQ (cs ds : List Int) : List Int := (List.range cs.length).map fun i => cs.getD i 0 + ds.getD i 0
/-- Some times an inequality. -/
def mulQ (m : Int) (cs : List Int) : List Int := cs.map fun c => m * c
def divQ (m : Int) (cs : List Int) : List Int := cs.map fun c => c.tdiv m
theorem getD_map0 (cs : List Int) (f : Int → Int) (hf : f 0 = 0) (i : Nat) : (cs.map f).getD i 0 = f (cs.getD i 0) := by
  rw [List.getD_eq_getElem?_getD, List.getD_eq_getElem?_getD, List.getElem?_map]
  cases cs[i]? <;> simp [hf]
theorem addQ_holds {cs ds : List Int} {b e : Int} {bits : Nat} (hl : ds.length = cs.length) (h1 : holdsQ cs b bits = true) (h2 : holdsQ ds e bits = true) : holdsQ (addQ cs ds) (b + e) bits = true := by
  unfold holdsQ at *
  rw [decide_eq_true_eq] at *
  have hl2 : (addQ cs ds).length = cs.length := by simp [addQ]
  rw [hl2, sumK_add (cs := cs) (ds := ds) bits cs.length (fun i hi => by simp [addQ, List.getD_eq_getElem?_getD, hi])]
  rw [hl] at h2
  omega
theorem negQ_holds {cs : List Int} {b : Int} {bits : Nat} : holdsQ (mulQ (-1) cs) (1 - b) bits = !(holdsQ cs b bits) := by
  unfold holdsQ
  have hl : (mulQ (-1) cs).length = cs.length := by simp [mulQ]
  have hs : sumK (mulQ (-1) cs) bits cs.length = -1 * sumK cs bits cs.length := sumK_mul (-1) bits cs.length fun i _ => getD_map0 cs _ (by simp) i
  rw [hl, hs]
  by_cases h : b ≤ sumK cs bits cs.length
  · rw [decide_eq_true h, decide_eq_false (by omega)]; rfl
  · rw [decide_eq_false h, decide_eq_true (by omega)]; rfl
/-- A quotient, rounded up. -/
def upQ (b k : Int) : Int := -((-b) / k)
theorem divQ_holds {cs : List Int} {b k : Int} {bits : Nat} (hk : 0 < k) (hd : ∀ c ∈ cs, c.tmod k = 0) : holdsQ (divQ k cs) (upQ b k) bits = holdsQ cs b bits := by
  unfold holdsQ
  have hl : (divQ k cs).length = cs.length := by simp [divQ]
  have hs : sumK cs bits cs.length = k * sumK (divQ k cs) bits cs.length := by
    refine sumK_mul k bits cs.length fun i hi => ?_
    rw [show (divQ k cs).getD i 0 = (cs.getD i 0).tdiv k from getD_map0 cs _ (by simp) i]
    have hm := hd (cs.getD i 0) (by rw [List.getD_eq_getElem?_getD, List.getElem?_eq_getElem hi]; exact List.getElem_mem hi)
    have := Int.mul_tdiv_add_tmod (cs.getD i 0) k
    omega
  rw [hl, hs]
  generalize sumK (divQ k cs) bits cs.length = s
  have key : (upQ b k ≤ s) ↔ b ≤ k * s := by
    unfold upQ
    constructor
    · intro h
      have h1 : -s ≤ (-b) / k := by omega
      have h2 := (Int.le_ediv_iff_mul_le hk).1 h1
      have e : -s * k = -(k * s) := by rw [Int.neg_mul, Int.mul_comm]
      omega
    · intro h
      have e : -s * k = -(k * s) := by rw [Int.neg_mul, Int.mul_comm]
      have h1 : -s ≤ (-b) / k := (Int.le_ediv_iff_mul_le hk).2 (by omega)
      omega
  by_cases h : upQ b k ≤ s
  · rw [decide_eq_true h, decide_eq_true (key.1 h)]
  · rw [decide_eq_false h, decide_eq_false (fun hh => h (key.2 hh))]

/-- The least and the greatest left side. -/
def lowK (cs : List Int) : Nat → Int
  | 0 => 0
  | k + 1 => lowK cs k + (if cs.getD k 0 < 0 then cs.getD k 0 else 0)
def highK (cs : List Int) : Nat → Int
  | 0 => 0
  | k + 1 => highK cs k + (if 0 < cs.getD k 0 then cs.getD k 0 else 0)
theorem sum_range (cs : List Int) (bits : Nat) : ∀ k, lowK cs k ≤ sumK cs bits k ∧ sumK cs bits k ≤ highK cs k
  | 0 => by simp [sumK, lowK, highK]
  | k + 1 => by
    have h := sum_range cs bits k
    simp only [sumK, lowK, highK]
    split <;> split <;> split <;> omega

/-- Whether a clause is true at bits. -/
def litT (bits : Nat) (l : Int) : Bool := bits.testBit (l.natAbs - 1) == decide (0 < l)
def clT (c : List Int) (bits : Nat) : Bool := c.any (litT bits)
/-- The coefficients and the bound of a clause. -/
def clQ (vars : Nat) (c : List Int) : List Int × Int := c.foldl (fun q l => if 0 < l then (q.1.set (l.natAbs - 1) 1, q.2) else (q.1.set (l.natAbs - 1) (-1), q.2 - 1)) (List.replicate vars 0, 1)
theorem sumK_set {cs : List Int} {j : Nat} (x : Int) (bits : Nat) (hj : j < cs.length) : ∀ k : Nat, sumK (cs.set j x) bits k = sumK cs bits k + (if j < k ∧ bits.testBit j = true then x - cs.getD j 0 else 0)
  | 0 => by simp [sumK]
  | k + 1 => by
    have ih := sumK_set x bits hj k
    simp only [sumK]
    rw [ih]
    have hg : (cs.set j x).getD k 0 = if j = k then x else cs.getD k 0 := by
      rw [List.getD_eq_getElem?_getD, List.getD_eq_getElem?_getD, List.getElem?_set]
      by_cases e : j = k
      · subst e; simp [hj]
      · simp [e]
    rw [hg]
    by_cases ht : bits.testBit j = true
    · simp only [ht, and_true]
      by_cases e : j = k
      · subst e
        simp only [ht, if_true, Nat.lt_irrefl, if_false, Nat.lt_add_one]
        omega
      · simp only [e, if_false]
        by_cases hlt : j < k
        · simp only [hlt, if_true, (by omega : j < k + 1)]
          omega
        · rw [if_neg hlt, if_neg (show ¬ j < k + 1 by omega)]; omega
    · simp only [ht, and_false, if_false, Int.add_zero, Bool.false_eq_true]
      by_cases e : j = k
      · subst e; simp [ht]
      · simp [e]
/-- The literals of a clause lie in range and have different variables. -/
def Apart (vars : Nat) (c : List Int) : Prop := (∀ l ∈ c, l ≠ 0 ∧ l.natAbs ≤ vars) ∧ c.Pairwise (fun a b => a.natAbs ≠ b.natAbs)
/-- How many literals are true. -/
def trueN (c : List Int) (bits : Nat) : Nat := c.countP (litT bits)
theorem clQ_gen (vars bits : Nat) : ∀ (c : List Int) (q : List Int × Int), q.1.length = vars → Apart vars c → (∀ l ∈ c, q.1.getD (l.natAbs - 1) 0 = 0) →
    (c.foldl (fun q l => if 0 < l then (q.1.set (l.natAbs - 1) 1, q.2) else (q.1.set (l.natAbs - 1) (-1), q.2 - 1)) q).1.length = vars ∧
    sumK (c.foldl (fun q l => if 0 < l then (q.1.set (l.natAbs - 1) 1, q.2) else (q.1.set (l.natAbs - 1) (-1), q.2 - 1)) q).1 bits vars - (c.foldl (fun q l => if 0 < l then (q.1.set (l.natAbs - 1) 1, q.2) else (q.1.set (l.natAbs - 1) (-1), q.2 - 1)) q).2 = sumK q.1 bits vars - q.2 + trueN c bits
  | [], q, hl, _, _ => by simp [trueN, hl]
  | l :: c, q, hl, hA, hz => by
    obtain ⟨h1, h2⟩ := hA
    rw [List.pairwise_cons] at h2
    obtain ⟨hl0, hlv⟩ := h1 l (by simp)
    have hj : l.natAbs - 1 < q.1.length := by omega
    have hA' : Apart vars c := ⟨fun a ha => h1 a (by simp [ha]), h2.2⟩
    have hzl := hz l (by simp)
    have hget : ∀ x a, a ∈ c → (q.1.set (l.natAbs - 1) x).getD (a.natAbs - 1) 0 = 0 := fun x a ha => by
      have hne := h2.1 a ha
      have ha1 := h1 a (by simp [ha])
      rw [List.getD_eq_getElem?_getD, List.getElem?_set, if_neg (by omega), ← List.getD_eq_getElem?_getD]
      exact hz a (by simp [ha])
    have ht : trueN (l :: c) bits = trueN c bits + (if litT bits l then 1 else 0) := by simp [trueN, List.countP_cons]
    rw [List.foldl_cons, ht]
    by_cases hp : 0 < l
    · rw [if_pos hp]
      have ih := clQ_gen vars bits c (q.1.set (l.natAbs - 1) 1, q.2) (by simp [hl]) hA' (hget 1)
      refine ⟨ih.1, ?_⟩
      rw [ih.2, sumK_set 1 bits hj vars, hzl]
      have hlit : litT bits l = bits.testBit (l.natAbs - 1) := by simp [litT, hp]
      rw [hlit]
      by_cases hb : bits.testBit (l.natAbs - 1) = true
      · simp only [hb, and_true, if_true, (by omega : l.natAbs - 1 < vars)]; omega
      · simp only [hb, and_false, if_false, Bool.false_eq_true]; omega
    · rw [if_neg hp]
      have ih := clQ_gen vars bits c (q.1.set (l.natAbs - 1) (-1), q.2 - 1) (by simp [hl]) hA' (hget (-1))
      refine ⟨ih.1, ?_⟩
      rw [ih.2, sumK_set (-1) bits hj vars, hzl]
      have hlit : litT bits l = !(bits.testBit (l.natAbs - 1)) := by simp [litT, hp]
      rw [hlit]
      by_cases hb : bits.testBit (l.natAbs - 1) = true
      · simp only [hb, and_true, if_true, (by omega : l.natAbs - 1 < vars), Bool.not_true, Bool.false_eq_true, if_false]; omega
      · simp only [hb, and_false, if_false, Bool.false_eq_true, Bool.not_false, if_true]; omega
theorem clQ_holds {vars : Nat} {c : List Int} (h : Apart vars c) (bits : Nat) : (clQ vars c).1.length = vars ∧ holdsQ (clQ vars c).1 (clQ vars c).2 bits = clT c bits := by
  have hg := clQ_gen vars bits c (List.replicate vars 0, 1) (by simp) h (fun l hl => by
    rw [List.getD_eq_getElem?_getD, List.getElem?_replicate]
    split <;> rfl)
  have hz : ∀ k, sumK (List.replicate vars 0) bits k = 0 := fun k => by
    induction k with
    | zero => rfl
    | succ k ih =>
      simp only [sumK, ih]
      rw [List.getD_eq_getElem?_getD, List.getElem?_replicate]
      split <;> (try split) <;> rfl
  refine ⟨hg.1, ?_⟩
  have h2 := hg.2
  rw [hz] at h2
  unfold holdsQ
  have h1 : (clQ vars c).1.length = vars := hg.1
  rw [h1]
  have h3 : sumK (clQ vars c).1 bits vars - (clQ vars c).2 = 0 - 1 + (trueN c bits : Int) := h2
  have h4 : clT c bits = decide (0 < trueN c bits) := by
    unfold clT trueN
    rw [Bool.eq_iff_iff, List.any_eq_true, decide_eq_true_eq, List.countP_pos_iff]
  rw [h4]
  by_cases hp : 0 < trueN c bits
  · rw [decide_eq_true hp, decide_eq_true (by omega)]
  · rw [decide_eq_false hp, decide_eq_false (by omega)]
end Go.Proofs.YtahbepajeplcmaaGreatDoor

/- Memory: rows of numbers that can be read. -/
namespace Go.Proofs.YtahbepajeplcmaaGreatDoor
open Go.RowKit

/-- A row of numbers that can be read. -/
structure IntsAt (w : World) (A : Option Addr) (cs : List Int) : Prop where
  at_ : ∀ j (hj : j < cs.length), ∃ b off, A = some ⟨b, off, none⟩ ∧ w.cell? ⟨b, off + j, none⟩ = some (.int .i64 cs[j])
  ok : ∀ c ∈ cs, I64 c
theorem IntsAt.grow {w w' : World} {A : Option Addr} {cs : List Int} (h : IntsAt w A cs) (hb : Below w.heap.size w w') : IntsAt w' A cs := by
  refine ⟨fun j hj => ?_, h.ok⟩
  obtain ⟨b, off, e, h1⟩ := h.at_ j hj
  exact ⟨b, off, e, (hb.cell (World.block_lt_of_cell? _ _ h1)).trans h1⟩
theorem IntsAt.keep {w w' : World} {A : Option Addr} {cs : List Int} (h : IntsAt w A cs) (hk : ∀ a, A = some a → w'.heap[a.block]? = w.heap[a.block]?) : IntsAt w' A cs := by
  refine ⟨fun j hj => ?_, h.ok⟩
  obtain ⟨b, off, e, h1⟩ := h.at_ j hj
  exact ⟨b, off, e, (World.cell?_of_block (a := ⟨b, off + j, none⟩) (hk ⟨b, off, none⟩ e)).trans h1⟩
theorem IntsAt.set {w : World} {A : Option Addr} {cs : List Int} (h : IntsAt w A cs) {g : Nat} (hg : ∀ a, A = some a → a.block ≠ g) (o : Nat) (u : Value) : IntsAt (w.setCell ⟨g, o, none⟩ u) A cs :=
  h.keep fun a ha => Below.heap_setCell _ _ _ _ (hg a ha)
theorem IntsAt.chg {F : List Nat} {w w' : World} {A : Option Addr} {cs : List Int} (h : IntsAt w A cs) (hc : Chg F w w') (hF : ∀ a, A = some a → a.block ∉ F) : IntsAt w' A cs := by
  refine ⟨fun j hj => ?_, h.ok⟩
  obtain ⟨b, off, e, h1⟩ := h.at_ j hj
  exact ⟨b, off, e, (World.cell?_of_block (a := ⟨b, off + j, none⟩) (hc.block b (World.block_lt_of_cell? _ _ h1) (hF _ e))).trans h1⟩
theorem IntsAt.nil (w : World) (A : Option Addr) : IntsAt w A [] := ⟨fun j hj => absurd hj (by simp), by simp⟩
theorem ints_own {w : World} {B : Nat} {e : TypeId} {v : Value} {cs : List Int} (h : w.ownsRow B e 1 v cs.length (cs.map (.int .i64))) (hok : ∀ c ∈ cs, I64 c) : ∃ A c, v = .slice A cs.length c ∧ IntsAt w A cs := by
  obtain ⟨_, ⟨rfl, h0⟩ | ⟨g, cap, cur, rfl, _, hh, _, _, hs, ht⟩⟩ := h
  · exact ⟨none, 0, by rw [h0], fun j hj => absurd hj (by omega), hok⟩
  · refine ⟨_, cap, rfl, fun j hj => ⟨g, 0, rfl, ?_⟩, hok⟩
    rw [Nat.mul_one] at ht
    rw [Nat.zero_add, hown_cell hh ht hj]
    simp [hj]
theorem ints_row {wr : Bool} {w : World} {v : Value} {cs : List Int} {F : List Nat} (h : Ty.int.row wr w v cs F) : ∃ A c, v = .slice A cs.length c ∧ IntsAt w A cs := by
  obtain ⟨a, c, rfl, h1, h2, h64, h3⟩ := row_int h
  refine ⟨a, c, rfl, ⟨fun j hj => ?_, h64⟩⟩
  rcases h3 with ⟨rfl, _⟩ | ⟨_, b, off, rfl, _, hc⟩
  · exact absurd hj (by simp)
  · exact ⟨b, off, rfl, (hc j hj).1⟩
theorem IntsAt.get {w : World} {b off : Nat} {cs : List Int} (h : IntsAt w (some ⟨b, off, none⟩) cs) {j : Nat} (hj : j < cs.length) : w.cell? ⟨b, off + j, none⟩ = some (.int .i64 cs[j]) := by
  obtain ⟨b', off', e, h1⟩ := h.at_ j hj
  cases e
  exact h1
/-- A function of a number, told by what it answers. -/
def FnI (R : Int → Prop) (w0 : World) (g : FuncId) (cb : Array Value) (p : Int → Bool) : Prop :=
  ∀ (x : Int) w, R x → Below w0.heap.size w0 w → Calls Tryz.prog g (#[.int .i64 x] ++ cb) w fun e w' => e = .returned (.bool (p x)) ∧ Below w.heap.size w w'
/-- The function values that calls enter. -/
def Enter1 (g : FuncId) : Prop := ∀ args w, (callFunc g args).run Tryz.prog w = .ok (.enter g args) w
end Go.Proofs.YtahbepajeplcmaaGreatDoor

/- Contracts: clauses that are drawn. -/
namespace Go.Proofs.YtahbepajeplcmaaGreatDoor
open Go.RowKit

theorem own_row {w : World} {B : Nat} {e : TypeId} {v : Value} {cs : List Int} (h : w.ownsRow B e 1 v cs.length (cs.map (.int .i64))) (hok : ∀ c ∈ cs, I64 c) : ∃ F, Ty.int.row true w v cs F ∧ F.Nodup ∧ ∀ b ∈ F, B ≤ b := by
  obtain ⟨F, hr, hF, hB⟩ := Ty.row_of_owns (T := Ty.int) h rfl (by decide) (Ty.all_int hok)
  refine ⟨F, hr, ?_, ?_⟩
  · rcases hF with rfl | ⟨g, _, _, _, rfl⟩ <;> simp
  · rcases hF with rfl | ⟨g, hg, _, _, rfl⟩
    · simp
    · intro b hb
      simp at hb
      omega
/-- Numbers that lie within bounds. -/
def Within (m : Int) (c : List Int) : Prop := ∀ x ∈ c, -m ≤ x ∧ x ≤ m
theorem Within.i64 {m : Int} {c : List Int} (h : Within m c) (hm : m ≤ 1000000) : ∀ x ∈ c, I64 x := fun x hx => by
  have := h x hx; unfold I64; omega
theorem within_without {m : Int} {c : List Int} (h : Within m c) (v : Int) : Within m (withoutB c v) := fun x hx => h x (List.mem_filter.1 hx).1
theorem within_put {m : Int} {c : List Int} {l : Int} (h : Within m c) (hl : -m ≤ l ∧ l ≤ m) : Within m (putB c l) := fun x hx => by
  unfold putB at hx
  rcases List.mem_append.1 hx with hx | hx
  · exact h x (List.mem_of_mem_take hx)
  · rcases List.mem_cons.1 hx with rfl | hx
    · exact hl
    · exact h x (List.mem_of_mem_drop hx)
/-- A drawn row of numbers. -/
def RowPost (n : Nat) (R : List Int → Prop) (A g : Nat) (ca : Option Addr) (cl cc : Nat) (w : World) (e : Ending) (w' : World) : Prop :=
  ∃ v c, e = .returned v ∧ w'.ownsRow w.heap.size 3 1 v c.length (c.map (.int .i64)) ∧ c.length ≤ n ∧ R c ∧ CurIs A g ca cl cc w' ∧ Chg [g] w w'

set_option maxRecDepth 100000 in
set_option maxHeartbeats 8000000 in
theorem cur_clause (vars : Int) (hv : -1 ≤ vars ∧ vars ≤ 13) (A g : Nat) (ca : Option Addr) (cl cc : Nat) (w : World) (h : CurIs A g ca cl cc w) (hA : A ≤ 50000000) :
    Calls Tryz.prog 91 #[.pointer (some ⟨g, 0, none⟩), .int .i64 vars] w (RowPost 4 (Within 13) (A + 60) g ca cl cc w) := by
  have hg := h.lt
  have S0 := (CS.start h).own_made 3 1
  have S2 := Lib.hid (S0.alloc (.cells #[.int .i64 1, .int .i64 2, .int .i64 2, .int .i64 3, .int .i64 3, .int .i64 4, .int .i64 0, .int .i64 2] 3))
  have hcall := Lib.hid (cur_among 0 4 (w.heap.size + 1) 0 8 8 A g ca cl cc _ S2.out.cur (by omega) (by decide) (by decide) (ints_new (by simp) fun j hj => by
    match j, hj with
    | 0, _ => exact ⟨_, rfl, by decide, by decide⟩
    | 1, _ => exact ⟨_, rfl, by decide, by decide⟩
    | 2, _ => exact ⟨_, rfl, by decide, by decide⟩
    | 3, _ => exact ⟨_, rfl, by decide, by decide⟩
    | 4, _ => exact ⟨_, rfl, by decide, by decide⟩
    | 5, _ => exact ⟨_, rfl, by decide, by decide⟩
    | 6, _ => exact ⟨_, rfl, by decide, by decide⟩
    | 7, _ => exact ⟨_, rfl, by decide, by decide⟩) (by omega))
  clear S0
  go_enter Tryz.func91, Tryz.ntmps91
  go_wp2_with fail
  refine hcall.out.mono ?_
  rintro e w2 ⟨_, ⟨m0, hm0, hm1, rfl⟩, rfl, hi2, hc2⟩
  have S3 := S2.out.turn hi2 hc2
  obtain ⟨m, rfl⟩ := Int.eq_ofNat_of_zero_le hm0
  have HS0 : Hid (CS w g ca cl cc (A + 10 + 10 * (4 - m)) w2 [Own 3 1 (.slice (some ⟨w.heap.size, 0, none⟩) ([] : List Int).length 0) ([] : List Int).length (([] : List Int).map (.int .i64))]) := S3.mono (by omega)
  clear S2 S3 hcall hi2 hc2
  go_wp2_with fail
  go_loopw [5, 6, 7] (fun vo vn _ wr => ∃ (m : Nat) (c : List Int) (B : Option Addr) (cap : Nat), m ≤ 4 ∧ c.length + m ≤ 4 ∧ vn = .int .i64 m ∧ vo = .slice B c.length cap ∧ Hid (Within 13 c) ∧ Hid (CS w g ca cl cc (A + 10 + 10 * (4 - m)) wr [Own 3 1 (.slice B c.length cap) c.length (c.map (.int .i64))])) (fun _ vn _ _ => (intOf vn).toNat)
  case atStart => exact ⟨m, [], _, _, by omega, by simp; omega, rfl, rfl, fun x hx => by simp at hx, HS0⟩
  case round =>
    obtain ⟨m, c, B, cap, hm4, hcm, rfl, rfl, HW, HS⟩ := hrel
    clear HS0
    go_upto_region 3 with fail
    go_cut [17] (fun s wx => ∃ q : Bool, s = .bool q ∧ Hid (q = true → 0 < m ∧ 0 < vars) ∧ Hid (CS w g ca cl cc (A + 10 + 10 * (4 - m)) wx [Own 3 1 (.slice B c.length cap) c.length (c.map (.int .i64))]))
    case first =>
      have hcond : (0 < m ∧ 0 < vars) ∨ ¬ 0 < m ∨ (0 < m ∧ ¬ 0 < vars) := by omega
      rcases hcond with ⟨hm, hn0⟩ | hm | ⟨hm, hn0⟩
      · have d1 : decide ((0 : Int) < (m : Int)) = true := decide_eq_true (by omega)
        have d2 : decide ((0 : Int) < vars) = true := decide_eq_true (by omega)
        go_wp2_with fail
        go_meet
        exact ⟨true, rfl, fun _ => ⟨hm, hn0⟩, HS⟩
      · have d1 : decide ((0 : Int) < (m : Int)) = false := decide_eq_false (by omega)
        go_wp2_with fail
        go_meet
        exact ⟨false, rfl, (fun e => by cases e), HS⟩
      · have d1 : decide ((0 : Int) < (m : Int)) = true := decide_eq_true (by omega)
        have d2 : decide ((0 : Int) < vars) = false := decide_eq_false (by omega)
        go_wp2_with fail
        go_meet
        exact ⟨false, rfl, (fun e => by cases e), HS⟩
    case rest =>
    clear HS
    obtain ⟨q, rfl, hq, HS⟩ := hcut
    cases q
    · have ho := Lib.hid (HS.out.owns_end (i := 0) rfl)
      have hI := Lib.hid (HS.out.cur.mono (show A + 10 + 10 * (4 - m) ≤ A + 60 by omega))
      have hC := Lib.hid HS.out.chg
      clear HS hq
      go_wp2_with fail
      go_ret
      exact ⟨_, c, rfl, ho.out, by omega, HW.out, hI.out, hC.out⟩
    · obtain ⟨hm, hn0⟩ := hq.out rfl
      clear hq
      have hcur := Lib.hid HS.out.cur
      have hmw : IntKind.i64.wrap ((m : Int) - 1) = ((m - 1 : Nat) : Int) := by rw [IntWalk.i64_in _ (by omega)]; omega
      go_wp2_with fail
      refine (cur_pick_at (lo := 0) (hi := vars - 1) hcur.out (by omega) (by omega) (by omega) (by omega) (by omega)).mono ?_
      rintro e w3 ⟨_, ⟨x, hx0, hx1, rfl⟩, rfl, hi3, hc3⟩
      have hxw : IntKind.i64.wrap (1 + x) = 1 + x := IntWalk.i64_in _ (by omega)
      have hxw2 : IntKind.i64.wrap (-(1 + x)) = -(1 + x) := IntWalk.i64_in _ (by omega)
      have S3 := HS.out.turn hi3 hc3
      obtain ⟨F, hr, _, _⟩ := own_row (S3.own (i := 0) rfl) (HW.out.i64 (by decide))
      have hwo := Lib.hid (l2Without_any _ c (1 + x) F w3 (Ty.row_down hr) (by omega))
      replace S3 := Lib.hid S3
      clear HS hcur hi3 hc3 hr
      go_wp2_with fail
      refine hwo.out.mono ?_
      rintro e w4 ⟨v4, rfl, ho4, hb4⟩
      have S4 := (S3.out.own_new hb4 (owns_zero ho4) (owns_ge ho4)).third2
      have HW4 := Lib.hid (within_without HW.out (1 + x))
      have hl4 : (withoutB c (1 + x)).length ≤ c.length := List.length_filter_le _ _
      obtain ⟨B4, cap4, rfl⟩ := own_slice ho4
      generalize withoutB c (1 + x) = c4 at *
      replace S4 := Lib.hid S4
      clear S3 hwo ho4 hb4 HW
      go_wp2_with fail
      refine (cur_one 2 _ g ca cl cc _ S4.out.cur (by omega) (by omega)).mono ?_
      rintro e w5 ⟨_, ⟨q, rfl⟩, rfl, hi5, hc5⟩
      have S5 := Lib.hid (S4.out.turn hi5 hc5)
      clear S4 hi5 hc5
      go_upto_if 28 with fail
      go_cut [7] (fun s wx => ∃ l : Int, s = .int .i64 l ∧ -13 ≤ l ∧ l ≤ 13 ∧ Hid (CS w g ca cl cc (A + 10 + 10 * (4 - m) + 4) wx [Own 3 1 (.slice B4 c4.length cap4) c4.length (c4.map (.int .i64))]))
      case first =>
        cases q
        · go_wp2_with fail
          go_meet
          exact ⟨1 + x, rfl, by omega, by omega, S5.out.mono (by omega)⟩
        · go_wp2_with fail
          go_meet
          exact ⟨-(1 + x), rfl, by omega, by omega, S5.out.mono (by omega)⟩
      case rest =>
      clear S5
      obtain ⟨l, rfl, hl0, hl1, HS⟩ := hcut
      obtain ⟨F5, hr5, _, _⟩ := own_row (HS.out.own (i := 0) rfl) (HW4.out.i64 (by decide))
      have hpu := Lib.hid (l2Put_any _ c4 l F5 _ (Ty.row_down hr5) (by omega))
      clear hr5
      go_wp2_with fail
      refine hpu.out.mono ?_
      rintro e w6 ⟨v6, rfl, ho6, hb6⟩
      have S6 := (HS.out.own_new hb6 (owns_zero ho6) (owns_ge ho6)).third2
      have HW6 := Lib.hid (within_put HW4.out ⟨hl0, hl1⟩)
      have hl6 := put_len c4 l
      obtain ⟨B6, cap6, rfl⟩ := own_slice ho6
      generalize putB c4 l = c6 at *
      have S7 : Hid (CS w g ca cl cc (A + 10 + 10 * (4 - (m - 1))) w6 [Own 3 1 (.slice B6 c6.length cap6) c6.length (c6.map (.int .i64))]) := S6.mono (by omega)
      replace hl6 := Lib.hid hl6
      clear HS hpu ho6 hb6 S6
      go_wp2_with fail
      go_roundw
      case rel => exact ⟨m - 1, c6, B6, cap6, by omega, by rw [hl6.out]; omega, rfl, rfl, HW6, S7⟩
      case measure => simp [intOf]; omega
end Go.Proofs.YtahbepajeplcmaaGreatDoor

/- Contracts, weak ones: splitting and reading texts in the reference, as the draws need it. -/
namespace Go.Proofs.YtahbepajeplcmaaGreatDoor
open Go.RowKit

theorem infoStrT : (Tryz.prog.info? 9).map (fun i => (i.zero, i.size, i.bytes)) = some (some (.string ByteArray.empty), 1, 16) := by kernel_rfl
theorem ext_le (s : ByteArray) (a b : Nat) : (s.extract a b).size ≤ s.size := by
  rw [← bl_length, bl_extract, List.length_take, List.length_drop, bl_length]; omega
theorem itoa_short {z : Int} (h0 : -1000000 ≤ z) (h1 : z ≤ 1000000) : (Lib.itoa z).length ≤ 14 := by
  rw [Lib.itoa]
  split
  · have := decDigits_len 12 z.natAbs (by omega)
    simp only [List.length_cons]; omega
  · have := decDigits_len 12 z.toNat (by omega)
    omega
/-- Some strings, none longer than a bound. -/
def StrsLe (n : Nat) (ps : List ByteArray) : Prop := ∀ p ∈ ps, p.size ≤ n

set_option maxRecDepth 100000 in
set_option maxHeartbeats 4000000 in
theorem l1SplitW_any (s : ByteArray) (b : Int) (w : World) (hs : s.size ≤ 100000) :
    Calls Tryz.prog 107 #[.string s, .int .u8 b] w fun e w' => ∃ (ps : List ByteArray) (B : Option Addr) (c : Nat), e = .returned (.slice B ps.length c) ∧ 0 < ps.length ∧ ps.length ≤ s.size + 1 ∧ StrsLe s.size ps ∧ Sp w w' [Own 9 1 (.slice B ps.length c) ps.length (ps.map .string)] := by
  obtain ⟨i0, hi, hz0, hz1, hz2⟩ := info_parts infoStrT
  have S0 := Lib.hid ((Sp.start w).own_made 9 1)
  go_enter Tryz.func107, Tryz.ntmps107
  go_wp2_with fail
  go_loopw [5, 6, 7] (fun vo vf vi wr => ∃ (k fr : Nat) (ps : List ByteArray) (B : Option Addr) (c : Nat), k ≤ s.size ∧ fr ≤ k ∧ ps.length ≤ k ∧ vi = .int .i64 k ∧ vf = .int .i64 fr ∧ vo = .slice B ps.length c ∧ Hid (StrsLe s.size ps) ∧ Hid (Sp w wr [Own 9 1 (.slice B ps.length c) ps.length (ps.map .string)])) (fun _ _ vi _ => s.size - (intOf vi).toNat)
  case atStart => exact ⟨0, 0, [], _, _, Nat.zero_le _, Nat.le_refl _, Nat.le_refl _, rfl, rfl, rfl, fun p hp => by simp at hp, S0⟩
  case round =>
    obtain ⟨k, fr, ps, B, c, hk, hfr, hps, rfl, rfl, rfl, HL, HS⟩ := hrel
    clear S0
    by_cases hlt : k < s.size
    · by_cases hb : ((s[k].toNat : Int) == b) = true
      · have hx := ext_le s fr k
        have S2 := HS.out.alloc_box #[.string (s.extract fr k)] 9
        have kB := S2.cell (i := 0) rfl (o := 0) rfl
        replace S2 := Lib.hid S2
        clear HS
        go_wp2_with (at_builtin; refine wpList_append_src rfl _ _ rfl Tryz.underlying37 hi hz0 hz1 hz2 rfl (by decide) _ _ _ rfl (S2.out.own (i := 1) rfl) _ 1 1 [.string (s.extract fr k)] rfl (Src.one kB) (by simp [Value.oneCell']) ?c3 ?c4 ?_)
        case c3 => unfold maxLen; omega
        case c4 => omega
        intro vY wY hownY hgY hatY
        have S4 := (S2.out.own_push (i := 1) rfl (bb _) hownY hgY (by simpa using hatY)).tail
        obtain ⟨aY, cY, rfl⟩ := own_slice hownY
        have hlen : ps.length + 1 = (ps ++ [s.extract fr k]).length := by simp
        have HS3 : Hid (Sp w wY [Own 9 1 (.slice aY (ps ++ [s.extract fr k]).length cY) (ps ++ [s.extract fr k]).length ((ps ++ [s.extract fr k]).map .string)]) := by
          unfold Hid; rw [← hlen, List.map_append]; exact S4
        have HL2 : Hid (StrsLe s.size (ps ++ [s.extract fr k])) := fun p hp => by
          rcases List.mem_append.1 hp with hp | hp
          · exact HL.out p hp
          · obtain rfl : p = s.extract fr k := by simpa using hp
            exact hx
        rw [hlen]
        generalize ps ++ [s.extract fr k] = ps2 at *
        clear S2 S4 kB hownY hgY hatY HL hx
        replace hlen := Lib.hid hlen
        go_wp2_with fail
        go_roundw
        case rel => exact ⟨k + 1, k + 1, ps2, aY, cY, by omega, by omega, by have := hlen.out; omega, by go_num, by go_num, rfl, HL2, HS3⟩
        case measure => simp [intOf]; omega
      · have hb' : ((s[k].toNat : Int) == b) = false := by simpa using hb
        clear hb
        go_wp2_with fail
        go_roundw
        case rel => exact ⟨k + 1, fr, ps, B, c, by omega, by omega, by omega, by go_num, rfl, rfl, HL, HS⟩
        case measure => simp [intOf]; omega
    · obtain rfl : k = s.size := by omega
      have hx := ext_le s fr s.size
      have S2 := HS.out.alloc_box #[.string (s.extract fr s.size)] 9
      have kB := S2.cell (i := 0) rfl (o := 0) rfl
      replace S2 := Lib.hid S2
      clear HS
      go_wp2_with (at_builtin; refine wpList_append_src rfl _ _ rfl Tryz.underlying37 hi hz0 hz1 hz2 rfl (by decide) _ _ _ rfl (S2.out.own (i := 1) rfl) _ 1 1 [.string (s.extract fr s.size)] rfl (Src.one kB) (by simp [Value.oneCell']) ?c3 ?c4 ?_)
      case c3 => unfold maxLen; omega
      case c4 => omega
      intro vY wY hownY hgY hatY
      have S4 := (S2.out.own_push (i := 1) rfl (bb _) hownY hgY (by simpa using hatY)).tail
      obtain ⟨aY, cY, rfl⟩ := own_slice hownY
      have hlen : ps.length + 1 = (ps ++ [s.extract fr s.size]).length := by simp
      have HS3 : Hid (Sp w wY [Own 9 1 (.slice aY (ps ++ [s.extract fr s.size]).length cY) (ps ++ [s.extract fr s.size]).length ((ps ++ [s.extract fr s.size]).map .string)]) := by
        unfold Hid; rw [← hlen, List.map_append]; exact S4
      have HL2 : Hid (StrsLe s.size (ps ++ [s.extract fr s.size])) := fun p hp => by
        rcases List.mem_append.1 hp with hp | hp
        · exact HL.out p hp
        · obtain rfl : p = s.extract fr s.size := by simpa using hp
          exact hx
      rw [hlen]
      generalize ps ++ [s.extract fr s.size] = ps2 at *
      clear S2 S4 kB hownY hgY hatY HL hx
      replace hlen := Lib.hid hlen
      go_wp2_with fail
      go_ret
      exact ⟨ps2, aY, cY, rfl, by have := hlen.out; omega, by have := hlen.out; omega, HL2.out, HS3.out⟩
end Go.Proofs.YtahbepajeplcmaaGreatDoor

/- Contracts, weak ones: the number of a text, the text of a clause, in the reference. -/
namespace Go.Proofs.YtahbepajeplcmaaGreatDoor
open Go.RowKit

/-- A number and whether it was one. -/
def ReadW (e : Ending) : Prop := ∃ (z : Int) (q : Bool), -1000000 ≤ z ∧ z ≤ 1000000 ∧ e = .returned (.tuple #[.int .i64 z, .bool q])
set_option maxRecDepth 100000 in
set_option maxHeartbeats 4000000 in
theorem l1ReadW_any (s : ByteArray) (w : World) (hs : s.size ≤ 100000) :
    Calls Tryz.prog 108 #[.string s] w fun e w' => ReadW e ∧ Below w.heap.size w w' := by
  go_enter Tryz.func108, Tryz.ntmps108
  go_upto_region 2 with fail
  go_cut [15] (fun v wx => ∃ q : Bool, v = .bool q ∧ Hid (q = true → 1 < s.size) ∧ wx = w)
  case first =>
    by_cases h1 : (1 : Int) < (s.size : Int)
    · have d1 : decide ((1 : Int) < (s.size : Int)) = true := decide_eq_true h1
      have h0 : 0 < s.size := by omega
      by_cases h2 : ((s[0].toNat : Int) == 45) = true
      · go_wp2_with fail
        go_meet
        exact ⟨true, rfl, fun _ => by omega, rfl⟩
      · have h2' : ((s[0].toNat : Int) == 45) = false := by simpa using h2
        clear h2
        go_wp2_with fail
        go_meet
        exact ⟨false, rfl, (fun e => by cases e), rfl⟩
    · have d1 : decide ((1 : Int) < (s.size : Int)) = false := decide_eq_false h1
      go_wp2_with fail
      go_meet
      exact ⟨false, rfl, (fun e => by cases e), rfl⟩
  case rest =>
  obtain ⟨q, rfl, hq, hw⟩ := hcut
  subst hw
  go_upto_if 15 with fail
  go_cut [4] (fun v wx => ∃ t : ByteArray, v = .string t ∧ t.size ≤ 100000 ∧ wx = wc)
  case first =>
    cases q
    · go_wp2_with fail
      go_meet
      exact ⟨s, rfl, hs, rfl⟩
    · have hq2 := hq.out rfl
      have h1 : (1 : Int) ≤ (s.size : Int) := by omega
      have hx := ext_le s 1 s.size
      clear hq
      go_wp2_with fail
      go_meet
      exact ⟨s.extract 1 s.size, rfl, by omega, rfl⟩
  case rest =>
  clear hq
  obtain ⟨t, rfl, ht, hw2⟩ := hcut
  subst hw2
  obtain ⟨q6, hq6⟩ : ∃ q, inB (t.size : Int) 1 6 = q := ⟨_, rfl⟩
  go_wp2_with fail
  refine (l1In_any _ _ _ _).mono ?_
  rintro e w1 ⟨rfl, rfl⟩
  rw [hq6]
  cases q6
  · go_wp2_with fail
    go_ret2
    exact ⟨⟨0, false, by decide, by decide, rfl⟩, bb _⟩
  have hT6 : t.size ≤ 6 := by unfold inB at hq6; simp only [Bool.and_eq_true, decide_eq_true_eq] at hq6; omega
  go_wp2_with fail
  go_loop [5, 6] (fun z i => ∃ (k : Nat) (v : Int), k ≤ t.size ∧ i = .int .i64 k ∧ z = .int .i64 v ∧ 0 ≤ v ∧ Hid (v < (10 : Int) ^ k)) (fun _ i => t.size - (intOf i).toNat)
  case atStart => exact ⟨0, 0, Nat.zero_le _, rfl, rfl, Int.le_refl _, by unfold Hid; decide⟩
  case round =>
    obtain ⟨k, v, hk, rfl, rfl, hv0, hv⟩ := hrel
    have hv6 : v < 1000000 := Int.lt_of_lt_of_le hv.out (by
      have h1 : (10 : Int) ^ k = ((10 ^ k : Nat) : Int) := by rw [Int.natCast_pow]; rfl
      have h2 : 10 ^ k ≤ 10 ^ 6 := Nat.pow_le_pow_right (by decide) (by omega)
      omega)
    by_cases hlt : k < t.size
    · have hc256 := t[k].toNat_lt
      by_cases h1 : (t[k].toNat : Int) < 48
      · have d1 : decide ((t[k].toNat : Int) < 48) = true := decide_eq_true h1
        go_wp2_with fail
        go_ret2
        exact ⟨⟨0, false, by decide, by decide, rfl⟩, bb _⟩
      · have d1 : decide ((t[k].toNat : Int) < 48) = false := decide_eq_false h1
        by_cases h2 : (57 : Int) < (t[k].toNat : Int)
        · have d2 : decide ((57 : Int) < (t[k].toNat : Int)) = true := decide_eq_true h2
          go_wp2_with fail
          go_ret2
          exact ⟨⟨0, false, by decide, by decide, rfl⟩, bb _⟩
        · have d2 : decide ((57 : Int) < (t[k].toNat : Int)) = false := decide_eq_false h2
          have hw1 : IntKind.i64.wrap (10 * v) = 10 * v := IntWalk.i64_in _ (by omega)
          have hnx : Hid (10 * v + ((t[k].toNat : Int) - 48) < (10 : Int) ^ (k + 1)) := by
            have h3 := hv.out
            unfold Hid
            rw [Int.pow_succ]
            omega
          have hge : 0 ≤ 10 * v + ((t[k].toNat : Int) - 48) := by omega
          clear hv
          go_wp2_with fail
          go_round
          case rel => exact ⟨k + 1, _, by omega, by go_num, rfl, hge, hnx⟩
          case measure => simp [intOf]; omega
    · obtain rfl : k = t.size := by omega
      clear hv
      have hneg : IntKind.i64.wrap (-v) = -v := IntWalk.i64_in _ (by omega)
      go_upto_if 50 with fail
      go_cut [5] (fun x wx => ∃ z : Int, x = .int .i64 z ∧ -1000000 ≤ z ∧ z ≤ 1000000 ∧ wx = wc)
      case first =>
        by_cases hlt2 : (t.size : Int) < (s.size : Int)
        · have d1 : decide ((t.size : Int) < (s.size : Int)) = true := decide_eq_true hlt2
          go_wp2_with fail
          go_meet
          exact ⟨-v, rfl, by omega, by omega, rfl⟩
        · have d1 : decide ((t.size : Int) < (s.size : Int)) = false := decide_eq_false hlt2
          go_wp2_with fail
          go_meet
          exact ⟨v, rfl, by omega, by omega, rfl⟩
      case rest =>
      obtain ⟨z, rfl, hz0, hz1, hw3⟩ := hcut
      subst hw3
      go_wp2_with fail
      refine (l1Num_any z _ (by omega) (by omega)).mono ?_
      rintro e w2 ⟨rfl, hb2⟩
      generalize ms (Lib.itoa z) = u at *
      obtain ⟨q, hq⟩ : ∃ q, (bl u == bl s) = q := ⟨_, rfl⟩
      cases q
      · go_wp2_with fail
        go_ret2
        exact ⟨⟨0, false, by decide, by decide, rfl⟩, hb2⟩
      · go_wp2_with fail
        go_ret2
        exact ⟨⟨z, true, hz0, hz1, rfl⟩, hb2⟩

set_option maxRecDepth 100000 in
set_option maxHeartbeats 4000000 in
theorem l2TextW_any (c : List Int) (hc : Within 1000000 c) (hl : c.length ≤ 100) (A : Option Addr) (cap : Nat) (w : World) (hx : IntsAt w A c) :
    Calls Tryz.prog 90 #[.slice A c.length cap] w fun e w' => ∃ t : ByteArray, t.size ≤ 20 * c.length + 20 ∧ e = .returned (.string t) ∧ Below w.heap.size w w' := by
  have hN := Lib.hid hx
  clear hx
  by_cases h0 : c.length = 0
  · have h0' : (c.length : Int) = 0 := by omega
    replace h0 := Lib.hid h0
    go_enter Tryz.func90, Tryz.ntmps90
    go_wp2_with fail
    go_ret
    exact ⟨_, by show 4 ≤ _; omega, rfl, bb _⟩
  · have h1 : 0 < c.length := by omega
    have h0' : ((c.length : Int) == 0) = false := by rw [beq_eq_false_iff_ne]; omega
    obtain ⟨b, off, rfl, m0⟩ := hN.out.at_ 0 h1
    have hb0 := hc _ (List.getElem_mem h1)
    rw [Nat.add_zero] at m0
    generalize c[0] = x0 at *
    clear h0
    go_enter Tryz.func90, Tryz.ntmps90
    go_wp2_with fail
    refine (l1Num_any x0 _ (by omega) (by omega)).mono ?_
    rintro e w1 ⟨rfl, hb1⟩
    have hsz : (ms (Lib.itoa x0)).size ≤ 14 := by rw [ms_size]; exact itoa_short hb0.1 hb0.2
    generalize ms (Lib.itoa x0) = t0 at *
    have HB0 := Lib.hid hb1
    clear hb1 m0 hb0
    go_wp2_with fail
    go_loopw [3, 4] (fun vs vi wr => ∃ (k : Nat) (t : ByteArray), k ≤ c.length ∧ 1 ≤ k ∧ vi = .int .i64 k ∧ vs = .string t ∧ t.size ≤ 20 * k ∧ Hid (Below w.heap.size w wr)) (fun _ vi _ => c.length - (intOf vi).toNat)
    case atStart => exact ⟨1, t0, h1, Nat.le_refl _, rfl, rfl, by omega, HB0⟩
    case round =>
      obtain ⟨k, t, hk, hk1, rfl, rfl, hts, HB⟩ := hrel
      clear HB0
      by_cases hlt : k < c.length
      · obtain ⟨b', off', e', m0⟩ := (hN.out.grow HB.out).at_ k hlt
        cases e'
        have hb0 := hc _ (List.getElem_mem hlt)
        generalize c[k] = x at *
        obtain ⟨t1, ht1⟩ : ∃ t1, ms (bl t ++ bl ⟨#[32]⟩) = t1 := ⟨_, rfl⟩
        have hs1 : t1.size ≤ 20 * k + 1 := by
          rw [← ht1, ms_size, List.length_append, bl_length, bl_length]
          have : (⟨#[32]⟩ : ByteArray).size = 1 := rfl
          omega
        have a1 := fun w' => run_add (P := Tryz.prog) w' t ⟨#[32]⟩ (by have : (⟨#[32]⟩ : ByteArray).size = 1 := rfl; omega)
        rw [ht1] at a1
        clear ht1
        go_wp2_with fail
        refine (l1Num_any x _ (by omega) (by omega)).mono ?_
        rintro e w2 ⟨rfl, hb2⟩
        have hsz2 : (ms (Lib.itoa x)).size ≤ 14 := by rw [ms_size]; exact itoa_short hb0.1 hb0.2
        generalize ms (Lib.itoa x) = u at *
        obtain ⟨t2, ht2⟩ : ∃ t2, ms (bl t1 ++ bl u) = t2 := ⟨_, rfl⟩
        have hs2 : t2.size ≤ 20 * (k + 1) := by
          rw [← ht2, ms_size, List.length_append, bl_length, bl_length]
          omega
        have a2 := fun w' => run_add (P := Tryz.prog) w' t1 u (by omega)
        rw [ht2] at a2
        have HB2 := Lib.hid (btr HB.out hb2)
        clear ht2 HB hb2 hb0 m0 a1
        go_wp2_with fail
        go_roundw
        case rel => exact ⟨k + 1, t2, by omega, by omega, by go_num, rfl, hs2, HB2⟩
        case measure => simp [intOf]; omega
      · obtain rfl : k = c.length := by omega
        go_wp2_with fail
        go_ret
        exact ⟨t, by omega, rfl, HB.out⟩
end Go.Proofs.YtahbepajeplcmaaGreatDoor

/- Contract, a weak one: a clause read from a text, in the reference. -/
namespace Go.Proofs.YtahbepajeplcmaaGreatDoor
open Go.RowKit

theorem strs_own {w : World} {B : Nat} {e : TypeId} {A : Option Addr} {c : Nat} {ps : List ByteArray} (h : w.ownsRow B e 1 (.slice A ps.length c) ps.length (ps.map .string)) {j : Nat} (hj : j < ps.length) : ∃ b off, A = some ⟨b, off, none⟩ ∧ w.cell? ⟨b, off + j, none⟩ = some (.string ps[j]) := by
  obtain ⟨g, cap, cur, e1, _, hh, _, _, _, ht⟩ := own_block h (by omega)
  simp only [Value.slice.injEq] at e1
  obtain ⟨rfl, -, rfl⟩ := e1
  refine ⟨g, 0, rfl, ?_⟩
  rw [Nat.mul_one] at ht
  rw [Nat.zero_add, hown_cell hh ht hj]
  simp [hj]
theorem Within.snoc {m : Int} {c : List Int} {x : Int} (h : Within m c) (h0 : -m ≤ x) (h1 : x ≤ m) : Within m (c ++ [x]) := fun y hy => by
  rcases List.mem_append.1 hy with hy | hy
  · exact h y hy
  · obtain rfl : y = x := by simpa using hy
    exact ⟨h0, h1⟩
/-- A clause and whether it is one. -/
def ParseW (vars : Int) (w : World) (e : Ending) (w' : World) : Prop := ∃ (c : List Int) (B : Option Addr) (k : Nat) (q : Bool), e = .returned (.tuple #[.slice B c.length k, .bool q]) ∧ Within 1000000 c ∧ c.length ≤ 13 ∧ (q = true → clauseB vars c = true) ∧ Sp w w' [Own 3 1 (.slice B c.length k) c.length (c.map (.int .i64))]

set_option maxRecDepth 100000 in
set_option maxHeartbeats 8000000 in
theorem l2ParseW_any (vars : Int) (s : ByteArray) (w : World) (hs : s.size ≤ 100000) :
    Calls Tryz.prog 96 #[.int .i64 vars, .string s] w (ParseW vars w) := by
  have S0 := Lib.hid ((Sp.start w).own_made 3 1)
  obtain ⟨i0, hi, hz0, hz1, hz2⟩ := info_parts infoInt
  go_enter Tryz.func96, Tryz.ntmps96
  go_upto_region 2 with fail
  go_cut [13] (fun v wx => ∃ q : Bool, v = .bool q ∧ Hid (Sp w wx [Own 3 1 (.slice (some ⟨w.heap.size, 0, none⟩) 0 0) 0 []]))
  case first =>
    go_wp2_with fail
    go_meet
    exact ⟨_, rfl, S0⟩
  case rest =>
  clear S0
  obtain ⟨q, rfl, S0⟩ := hcut
  cases q
  case true =>
    obtain ⟨q1, hq1⟩ : ∃ q, inB vars 0 12 = q := ⟨_, rfl⟩
    go_wp2_with fail
    refine (l2Vars_any _ _).mono ?_
    rw [hq1]
    rintro e w1 ⟨rfl, rfl⟩
    go_wp2_with fail
    go_ret2
    exact ⟨[], _, _, q1, rfl, fun x hx => by simp at hx, by simp, fun h => by unfold clauseB; rw [hq1, h]; rfl, S0.out⟩
  case false =>
  go_wp2_with fail
  refine (l1SplitW_any s 32 _ hs).mono ?_
  rintro e w1 ⟨ps, PB, pc, rfl, hps0, hps1, HL, T1⟩
  have S1 : Hid (Sp w w1 [Own 9 1 (.slice PB ps.length pc) ps.length (ps.map .string), Own 3 1 (.slice (some ⟨w.heap.size, 0, none⟩) ([] : List Int).length 0) ([] : List Int).length (([] : List Int).map (.int .i64))]) := S0.out.seq T1
  replace HL := Lib.hid HL
  clear S0 T1
  go_wp2_with fail
  go_loopw [6, 8, 9, 10] (fun vo vi _ _ wr => ∃ (c : List Int) (B : Option Addr) (cap : Nat), c.length ≤ ps.length ∧ c.length ≤ 13 ∧ vi = .int .i64 (c.length : Nat) ∧ vo = .slice B c.length cap ∧ Hid (Within 1000000 c) ∧ Hid (Sp w wr [Own 9 1 (.slice PB ps.length pc) ps.length (ps.map .string), Own 3 1 (.slice B c.length cap) c.length (c.map (.int .i64))])) (fun _ vi _ _ _ => ps.length - (intOf vi).toNat)
  case atStart => exact ⟨[], _, _, Nat.zero_le _, by simp, rfl, rfl, fun x hx => by simp at hx, S1⟩
  case round =>
    obtain ⟨c, B, cap, hk, hk13, rfl, rfl, HW, HS⟩ := hrel
    clear S1
    go_upto_region 6 with fail
    go_cut [26] (fun v wx => ∃ q : Bool, v = .bool q ∧ Hid (q = true → c.length < ps.length ∧ c.length ≤ 12) ∧ Hid (Sp w wx [Own 9 1 (.slice PB ps.length pc) ps.length (ps.map .string), Own 3 1 (.slice B c.length cap) c.length (c.map (.int .i64))]))
    case first =>
      have hcond : (c.length < ps.length ∧ c.length ≤ 12) ∨ ¬ c.length < ps.length ∨ (c.length < ps.length ∧ ¬ c.length ≤ 12) := by omega
      rcases hcond with ⟨hm, hn0⟩ | hm | ⟨hm, hn0⟩
      · have d1 : decide ((c.length : Int) < (ps.length : Int)) = true := decide_eq_true (by omega)
        have d2 : decide ((c.length : Int) ≤ 12) = true := decide_eq_true (by omega)
        go_wp2_with fail
        go_meet
        exact ⟨true, rfl, fun _ => ⟨hm, hn0⟩, HS⟩
      · have d1 : decide ((c.length : Int) < (ps.length : Int)) = false := decide_eq_false (by omega)
        go_wp2_with fail
        go_meet
        exact ⟨false, rfl, (fun e => by cases e), HS⟩
      · have d1 : decide ((c.length : Int) < (ps.length : Int)) = true := decide_eq_true (by omega)
        have d2 : decide ((c.length : Int) ≤ 12) = false := decide_eq_false (by omega)
        go_wp2_with fail
        go_meet
        exact ⟨false, rfl, (fun e => by cases e), HS⟩
    case rest =>
    clear HS
    obtain ⟨q, rfl, hq, HS⟩ := hcut
    cases q
    case true =>
      obtain ⟨hm, hn0⟩ := hq.out rfl
      clear hq
      obtain ⟨b, off, rfl, m0⟩ := strs_own (HS.out.own (i := 0) rfl) hm
      have hsz := HL.out _ (List.getElem_mem hm)
      have hrd := Lib.hid (fun W => l1ReadW_any ps[c.length] W (by omega))
      generalize ps[c.length] = p at *
      go_wp2_with fail
      refine (hrd.out _).mono ?_
      rintro e w2 ⟨⟨z, q, hzl, hzu, rfl⟩, hb2⟩
      have S2 := Lib.hid (HS.out.grow hb2)
      clear HS hrd hb2 m0 hsz
      cases q
      · have S3 := Lib.hid (S2.out.own_made 3 1)
        clear S2
        go_wp2_with fail
        go_ret2
        exact ⟨[], _, _, false, rfl, fun x hx => by simp at hx, by simp, (fun e => by cases e), S3.out.swap.tail.swap.tail⟩
      · have S3 := S2.out.alloc_box #[.int .i64 z] 3
        have kB := S3.cell (i := 0) rfl (o := 0) rfl
        replace S3 := Lib.hid S3
        clear S2
        go_wp2_with (at_builtin; refine wpList_append_src rfl _ _ rfl Tryz.underlying43 hi hz0 hz1 hz2 rfl (by decide) _ _ _ rfl (S3.out.own (i := 2) rfl) _ 1 1 [.int .i64 z] rfl (Src.one kB) (by simp [Value.oneCell']) ?c3 ?c4 ?_)
        case c3 => unfold maxLen; omega
        case c4 => omega
        intro vY wY hownY hgY hatY
        have S4 := (S3.out.own_push (i := 2) rfl (bb _) hownY hgY (by simpa using hatY)).tail
        obtain ⟨aY, cY, rfl⟩ := own_slice hownY
        have hlen : c.length + 1 = (c ++ [z]).length := by simp
        have HS3 : Hid (Sp w wY [Own 9 1 (.slice (some ⟨b, off, none⟩) ps.length pc) ps.length (ps.map .string), Own 3 1 (.slice aY (c ++ [z]).length cY) (c ++ [z]).length ((c ++ [z]).map (.int .i64))]) := by
          unfold Hid; rw [← hlen, List.map_append]; exact S4
        have HW2 := Lib.hid (HW.out.snoc hzl hzu)
        have hi1 : IntKind.i64.wrap ((c.length : Int) + 1) = ((c ++ [z]).length : Int) := by rw [IntWalk.i64_in _ (by omega), ← hlen]; omega
        rw [hlen]
        have hl2 : (c ++ [z]).length ≤ ps.length := by omega
        have hl3 : (c ++ [z]).length ≤ 13 := by omega
        have hl4 : c.length < (c ++ [z]).length := by omega
        generalize c ++ [z] = c2 at *
        replace hlen := Lib.hid hlen
        clear S3 S4 kB hownY hgY hatY HW
        go_wp2_with fail
        go_roundw
        case rel => exact ⟨c2, aY, cY, hl2, hl3, rfl, rfl, HW2, HS3⟩
        case measure => simp [intOf]; omega
    case false =>
      clear hq
      obtain ⟨F, hr, _, _⟩ := own_row (HS.out.own (i := 1) rfl) (HW.out.i64 (by decide))
      obtain ⟨A', c', e', hI⟩ := ints_own (HS.out.own (i := 1) rfl) (HW.out.i64 (by decide))
      cases e'
      have hcl := Lib.hid (l2Clause_any vars _ c F _ (Ty.row_down hr))
      have htx := Lib.hid (fun W hb => l2TextW_any c HW.out (by omega) B cap W (hI.grow hb))
      clear hr hI
      go_upto_region 12 with fail
      go_cut [58] (fun v wx => ∃ q : Bool, v = .bool q ∧ Hid (q = false → clauseB vars c = true) ∧ Hid (Sp w wx [Own 9 1 (.slice PB ps.length pc) ps.length (ps.map .string), Own 3 1 (.slice B c.length cap) c.length (c.map (.int .i64))]))
      case first =>
        by_cases h12 : (12 : Int) < (ps.length : Int)
        · have d1 : decide ((12 : Int) < (ps.length : Int)) = true := decide_eq_true h12
          go_wp2_with fail
          go_meet
          exact ⟨true, rfl, (fun e => by cases e), HS⟩
        · have d1 : decide ((12 : Int) < (ps.length : Int)) = false := decide_eq_false h12
          obtain ⟨q, hq⟩ : ∃ q, clauseB vars c = q := ⟨_, rfl⟩
          rw [hq] at hcl
          go_wp2_with fail
          refine hcl.out.mono ?_
          rintro e w2 ⟨rfl, hb2⟩
          have S2 := Lib.hid (HS.out.grow hb2)
          have htx2 := Lib.hid (htx.out _ hb2)
          clear HS hcl htx hb2
          cases q
          · go_wp2_with fail
            go_meet
            exact ⟨true, rfl, (fun e => by cases e), S2⟩
          · go_wp2_with fail
            refine htx2.out.mono ?_
            rintro e w3 ⟨t, ht, rfl, hb3⟩
            have S3 := Lib.hid (S2.out.grow hb3)
            clear S2 htx2 hb3
            go_wp2_with fail
            go_meet
            exact ⟨_, rfl, fun _ => hq, S3⟩
      case rest =>
      clear HS hcl htx
      obtain ⟨q, rfl, hq, HS⟩ := hcut
      cases q
      · have hcb := hq.out rfl
        go_wp2_with fail
        go_ret2
        exact ⟨c, B, cap, true, rfl, HW.out, hk13, fun _ => hcb, HS.out.tail⟩
      · have S3 := Lib.hid (HS.out.own_made 3 1)
        clear HS
        go_wp2_with fail
        go_ret2
        exact ⟨[], _, _, false, rfl, fun x hx => by simp at hx, by simp, (fun e => by cases e), S3.out.swap.tail.swap.tail⟩
end Go.Proofs.YtahbepajeplcmaaGreatDoor
