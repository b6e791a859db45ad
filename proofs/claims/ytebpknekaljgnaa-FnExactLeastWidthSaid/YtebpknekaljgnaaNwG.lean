/- Contracts: the order of the clauses of a closure, in the reference. Printed by gen_order.py. -/
import Derived.Test.YtebpknekaljgnaaNwF
namespace Go.Proofs.Ytebpknekaljgnaa
open Go.RowKit

theorem own_src' {w : World} {B : Nat} {e : TypeId} {n c : Nat} {A : Option Addr} {cs : List Value} (h : w.ownsRow B e 1 (.slice A n c) n cs) : n ≤ c ∧ Src w A n 1 cs ∧ (∀ k, k ≤ n → Src w (cutA A c k 1) (n - k) 1 (cs.drop k)) := by
  obtain ⟨A', c', e, h1, h2, h3⟩ := own_src h
  simp only [Value.slice.injEq, true_and] at e
  obtain ⟨rfl, rfl⟩ := e
  exact ⟨h1, h2, h3⟩
theorem ints_drop_one (ys : List Int) (P : Nat) : ∀ u ∈ (ys.map (Value.int .i64)).drop P, u.oneCell' = true := fun u hu => ints_one ys u (List.mem_of_mem_drop hu)
/-- A number put to a place. -/
def insI (ys : List Int) (P : Nat) (x : Int) : List Int := ys.take P ++ x :: ys.drop P
theorem insI_len {ys : List Int} {P : Nat} {x : Int} (h : P ≤ ys.length) : P + 1 + (ys.length - P) = (insI ys P x).length := by
  unfold insI; rw [List.length_append, List.length_cons, List.length_take, List.length_drop]; omega
theorem insI_map (ys : List Int) (P : Nat) (x : Int) : (ys.take P).map (Value.int .i64) ++ [.int .i64 x] ++ (ys.map (.int .i64)).drop P = (insI ys P x).map (.int .i64) := by unfold insI; simp
theorem insI_mem {ys : List Int} {P : Nat} {x z : Int} : z ∈ insI ys P x ↔ z = x ∨ z ∈ ys := by
  unfold insI
  rw [List.mem_append, List.mem_cons]
  conv => rhs; rw [← List.take_append_drop P ys, List.mem_append]
  exact ⟨fun h => by rcases h with h | h | h <;> simp [h], fun h => by rcases h with h | h | h <;> simp [h]⟩

/-- Numbers 0, 1, .., each once, in whatever order. -/
structure Perm0 (ord : List Int) (k : Nat) : Prop where
  len : ord.length = k
  mem : ∀ z, z ∈ ord ↔ 0 ≤ z ∧ z < (k : Int)
theorem Perm0.i64 {ord : List Int} {k : Nat} (h : Perm0 ord k) (hk : k ≤ 10000000) : ∀ y ∈ ord, I64 y := fun y hy => by have := (h.mem y).1 hy; unfold I64; omega
theorem Perm0.ins {ord : List Int} {k P : Nat} (h : Perm0 ord k) (hP : P ≤ ord.length) : Perm0 (insI ord P k) (k + 1) :=
  ⟨by rw [← insI_len hP]; have := h.len; omega, fun z => by rw [insI_mem, h.mem]; omega⟩
theorem Perm0.get {ord : List Int} {k : Nat} (h : Perm0 ord k) {j : Nat} (hj : j < ord.length) : ∃ n : Nat, n < k ∧ ord[j] = (n : Int) := by
  have := (h.mem _).1 (List.getElem_mem hj)
  exact ⟨ord[j].toNat, by omega, by omega⟩
/-- A place for each clause. -/
def OrdPost (k : Nat) (w : World) (e : Ending) (w' : World) : Prop := ∃ v ord, e = .returned v ∧ Perm0 ord k ∧ w'.ownsRow w.heap.size 3 1 v ord.length (ord.map (.int .i64)) ∧ Below w.heap.size w w'
theorem l2Before_both {v u : Value} {xs ys : List Int} {F G : List Nat} {w : World} (hx : Ty.int.row false w v xs F) (hy : Ty.int.row false w u ys G) (mx : Mild xs) (my : Mild ys) : ∃ q, ∀ w', Below w.heap.size w w' → Calls Try.prog 64 #[v, u] w' fun e w'' => e = .returned (.bool q) ∧ Below w'.heap.size w' w'' :=
  ⟨beforeB xs ys, fun _ hb => l2Before_any v u xs ys F G _ (Ty.row_grow hx hb) (Ty.row_grow hy hb) mx my⟩

set_option maxRecDepth 100000 in
set_option maxHeartbeats 8000000 in
theorem l10Order_any (lv : Value) (a1 a2 a3 a4 a5 : Option Addr) (n1 n2 n3 n4 n5 c1 c2 c3 c4 c5 : Nat) (L : List (List Int)) (F : List Nat) (w : World) (hx : (Ty.slice Ty.int).row false w lv L F) (mL : ∀ x ∈ L, Mild x) (hl : L.length ≤ 1000000) :
    Calls Try.prog 65 #[.agg #[lv, .slice a1 n1 c1, .slice a2 n2 c2, .slice a3 n3 c3, .slice a4 n4 c4, .slice a5 n5 c5]] w (OrdPost L.length w) := by
  obtain ⟨i0, hi, hz0, hz1, hz2⟩ := info_parts infoInt
  obtain ⟨a0, c0, rfl, hx1, hx2, hx3⟩ := row_slices hx
  have S0 := ((Sp.start w).alloc_box #[.slice a0 L.length c0, .slice a1 n1 c1, .slice a2 n2 c2, .slice a3 n3 c3, .slice a4 n4 c4, .slice a5 n5 c5] 50).own_made 3 1
  simp only [World.size_alloc] at S0
  replace S0 := Lib.hid S0
  go_enter Try.func65, Try.ntmps65
  go_wp2_with fail
  go_loopw [3, 4] (fun s i wr => ∃ (k : Nat) (ord : List Int), k ≤ L.length ∧ i = .int .i64 k ∧ Hid (Perm0 ord k) ∧ Hid (Sp w wr [Ints s ord, Box w.heap.size 50 #[.slice a0 L.length c0, .slice a1 n1 c1, .slice a2 n2 c2, .slice a3 n3 c3, .slice a4 n4 c4, .slice a5 n5 c5]])) (fun _ i _ => L.length - (intOf i).toNat)
  case atStart => exact ⟨0, [], Nat.zero_le _, rfl, ⟨rfl, fun z => by simp⟩, S0⟩
  case round =>
    obtain ⟨k, ord, hk, rfl, HP, HS⟩ := hrel
    clear S0
    have k0 := HS.out.cell (i := 1) rfl (o := 0) rfl
    obtain ⟨sa, sc, rfl, hsc, -⟩ := own_src (HS.out.own (i := 0) rfl)
    have hok := HP.out.len
    have hoI := Lib.hid (HP.out.i64 (by omega))
    by_cases hlt : k < L.length
    · rcases hx3 with ⟨rfl, rfl⟩ | ⟨hxn, b, off, rfl, _, hxc⟩
      · exact absurd hlt (by simp)
      have hok2 : ord.length ≤ 1000000 := by omega
      replace hok := Lib.hid hok
      go_wp2_with fail
      clear k0
      go_loopw [5, 6] (fun i j wr => ∃ lo hh : Nat, lo ≤ hh ∧ hh ≤ ord.length ∧ i = .int .i64 lo ∧ j = .int .i64 hh ∧ Hid (Sp w wr [Ints (.slice sa ord.length sc) ord, Box w.heap.size 50 #[.slice (some ⟨b, off, none⟩) L.length c0, .slice a1 n1 c1, .slice a2 n2 c2, .slice a3 n3 c3, .slice a4 n4 c4, .slice a5 n5 c5]])) (fun i j _ => (intOf j).toNat - (intOf i).toNat)
      case atStart => exact ⟨0, ord.length, Nat.zero_le _, Nat.le_refl _, rfl, rfl, HS⟩
      case round =>
        obtain ⟨lo, hh, h1, h2, rfl, rfl, HS⟩ := hrel
        have k0 := HS.out.cell (i := 1) rfl (o := 0) rfl
        by_cases hlo : lo < hh
        · have hm : (lo + hh) / 2 < ord.length := by omega
          obtain ⟨_, hv | ⟨sg, sc', ev, _, _, hcell⟩⟩ := own_view (HS.out.own (i := 0) rfl)
          · obtain ⟨_, h0, _⟩ := hv; omega
          simp only [Value.slice.injEq, true_and] at ev
          obtain ⟨rfl, rfl⟩ := ev
          obtain ⟨m, hmk, hme⟩ := HP.out.get hm
          have d0 := cell_regrown k0
          have d1 := cell_regrown (hcell ((lo + hh) / 2) (.int .i64 m) (by rw [List.getElem?_map, List.getElem?_eq_getElem hm, hme]; rfl))
          have hB := HS.out.below
          have hmL : m < L.length := by omega
          obtain ⟨x, Fx, hcx, hrx, _⟩ := hxc m hmL
          obtain ⟨y, Fy, hcy, hry, _⟩ := hxc k hlt
          obtain ⟨xa, xc, rfl, _, _⟩ := Ty.row_len hrx
          obtain ⟨ya, yc, rfl, _, _⟩ := Ty.row_len hry
          have d2 := cell_regrown ((hcx.keep (hB.block b hcx.lt)).1)
          have d3 := cell_regrown ((hcy.keep (hB.block b hcy.lt)).1)
          obtain ⟨q, hq⟩ := l2Before_both (Ty.row_below hrx hB (Ty.row_lt hrx)) (Ty.row_below hry hB (Ty.row_lt hry)) (mL _ (List.getElem_mem hmL)) (mL _ (List.getElem_mem hlt))
          replace hq := Lib.hid hq
          have hi0 : (0 : Int) ≤ ((lo : Int) + (hh : Int)) / 2 := by omega
          have hi1 : (((lo : Int) + (hh : Int)) / 2).toNat = (lo + hh) / 2 := by omega
          have hi2 : ((lo : Int) + (hh : Int)) / 2 < (ord.length : Int) := by omega
          have hi3 : ((lo : Int) + (hh : Int)) / 2 = (((lo + hh) / 2 : Nat) : Int) := by omega
          have hm1 : lo ≤ (lo + hh) / 2 := by omega
          have hm2 : (lo + hh) / 2 < hh := by omega
          have hmI : (m : Int) < (L.length : Int) := by omega
          generalize (lo + hh) / 2 = mid at *
          clear hcell hcx hcy hrx hry hxc hme k0 hB
          cases q
          · go_wp2_with fail
            refine wp_region_quiet_below (by kernel_rfl) (by kernel_rfl) ?_
            repeat (any_goals (first | go_big_quiet_step ((go_at_call 64; exact Calls.regrown_of (hq.out _ (below_regrown _ _ _))))))
            refine wpQuiet_nil ?_
            rintro w1 ⟨p, rfl⟩
            have S1 := Lib.hid (HS.out.grow (below_regrown wr p.d p.os))
            clear HS d0 d1 d2 d3
            go_wp2_with fail
            go_roundw
            case rel => exact ⟨lo, mid, by omega, by omega, rfl, by first | rfl | rw [hi3], S1⟩
            case measure => simp [intOf]; omega
          · go_wp2_with fail
            refine wp_region_quiet_below (by kernel_rfl) (by kernel_rfl) ?_
            repeat (any_goals (first | go_big_quiet_step ((go_at_call 64; exact Calls.regrown_of (hq.out _ (below_regrown _ _ _))))))
            refine wpQuiet_nil ?_
            rintro w1 ⟨p, rfl⟩
            have S1 := Lib.hid (HS.out.grow (below_regrown wr p.d p.os))
            clear HS d0 d1 d2 d3
            go_wp2_with fail
            go_roundw
            case rel => exact ⟨mid + 1, hh, by omega, by omega, by go_num, rfl, S1⟩
            case measure => simp [intOf]; omega
        · have hlo2 : lo ≤ ord.length := by omega
          have hlc : lo ≤ sc := by omega
          go_wp2_with fail
          have S101 := Lib.hid (Sp.drew HS.out)
          refine wp_region_tail_lit (S := (fun w' => True)) 10 [false, false, false, false, false, false, false, false, false, false, false, false] (by kernel_rfl) (by kernel_rfl) (by kernel_rfl) ?_ ?_
          · exact trivial
          intro hS
          (refine walkT_take (i := 0) (v := ?_) rfl (by kernel_rfl) (by decide) (by kernel_rfl) (by kernel_rfl) (fun _ _ _ h => h) (Or.inl ⟨by rfl, ?_⟩) (by assumption) ?_; rotate_left; (focus (intro w hSw; (try dsimp only at hSw); go_simp; (try with_reducible rfl); done)); (try simp only [put_rules]))
          (refine walkT_take (i := 1) (v := ?_) rfl (by kernel_rfl) (by decide) (by kernel_rfl) (by kernel_rfl) (fun _ _ _ h => h) (Or.inl ⟨by rfl, ?_⟩) (by assumption) ?_; rotate_left; (focus (intro w hSw; (try dsimp only at hSw); go_simp; (try with_reducible rfl); done)); (try simp only [put_rules]))
          (refine walkT_take (i := 2) (v := .slice _ lo sc) rfl (by kernel_rfl) (by decide) (by kernel_rfl) (by kernel_rfl) (fun _ _ _ h => h) (Or.inl ⟨by rfl, fun _ _ => exec_slice_to rfl rfl rfl Try.underlying25 hi hlc⟩) (by assumption) ?_; (try simp only [put_rules]))
          (refine walkT_take (i := 4) (v := ?_) rfl (by kernel_rfl) (by decide) (by kernel_rfl) (by kernel_rfl) (fun _ _ _ h => h) (Or.inl ⟨by rfl, ?_⟩) (by assumption) ?_; rotate_left; (focus (intro w hSw; (try dsimp only at hSw); go_simp; (try with_reducible rfl); done)); (try simp only [put_rules]))
          (refine walkT_take (i := 7) (v := ?_) rfl (by kernel_rfl) (by decide) (by kernel_rfl) (by kernel_rfl) (fun _ _ _ h => h) (Or.inl ⟨by rfl, ?_⟩) (by assumption) ?_; rotate_left; (focus (intro w hSw; (try dsimp only at hSw); go_simp; (try with_reducible rfl); done)); (try simp only [put_rules]))
          (refine walkT_take (i := 8) (v := ?_) rfl (by kernel_rfl) (by decide) (by kernel_rfl) (by kernel_rfl) (fun _ _ _ h => h) (Or.inl ⟨by rfl, ?_⟩) (by assumption) ?_; rotate_left; (focus (intro w hSw; (try dsimp only at hSw); go_simp; (try with_reducible rfl); done)); (try simp only [put_rules]))
          (refine walkT_take (i := 9) (v := .slice (cutA _ sc lo 1) (ord.length - lo) (sc - lo)) rfl (by kernel_rfl) (by decide) (by kernel_rfl) (by kernel_rfl) (fun _ _ _ h => h) (Or.inl ⟨by rfl, fun _ _ => exec_slice_from rfl rfl rfl Try.underlying25 hi hz1 hlo2⟩) (by assumption) ?_; (try simp only [put_rules]))
          clear hS
          (refine walkT_ready (rs := [3, 5]) (by kernel_rfl) (by simp) (by decide) ?_; refine AllT.cons rfl (fun K hK => ?_) (AllT.cons rfl (fun K hK => ?_) AllT.nil))
          · skip
            go_simp
            go_at_call 53
            obtain ⟨fa102, ra102⟩ := S101.out.ints_row (i := 0) rfl hoI.out
            obtain ⟨fb102, rb102, _⟩ := row_int_take (k := lo) ra102 hlo2
            refine (l1Own_any _ (ord.take lo) _ _ rb102 (by rw [List.length_take]; omega)).mono ?_
            rintro e w102 ⟨v102, rfl, ho102, hb102⟩
            rw [List.length_take, Nat.min_eq_left hlo2] at ho102
            have S102 := S101.out.own_call hb102 ho102
            obtain ⟨a102, c102, rfl⟩ := owns_form ho102
            replace S102 := Lib.hid S102
            clear ho102 hb102 ra102 rb102 S101
            go_wp2_with fail
            refine hK.out _ _ ?_ (fun _ => ?_)
            · exact trivial
            clear hK
            (try simp only [put_rules])
            (refine walkT_ready (rs := [5]) (by kernel_rfl) (by simp) (by decide) ?_; refine AllT.cons rfl (fun K hK => ?_) AllT.nil)
            go_simp
            have S103 := S102.out.alloc_box #[.int .i64 (k : Int)] 3
            (repeat (first | simp only [drew_size] at S103 | simp only [World.size_setCell] at S103 | simp only [World.size_alloc] at S103))
            replace S103 := Lib.hid S103
            clear S102
            refine hK.out _ _ ?_ (fun _ => ?_)
            · exact trivial
            clear hK
            (try simp only [put_rules])
            (refine walkT_ready (rs := [6]) (by kernel_rfl) (by simp) (by decide) ?_; refine AllT.cons rfl (fun K hK => ?_) AllT.nil)
            have kB104 := S103.out.cell (i := 0) rfl (o := 0) rfl
            (refine step_append_src rfl _ _ rfl Try.underlying25 hi hz0 hz1 hz2 rfl (by decide) _ lo _ rfl (S103.out.own (i := 1) rfl) _ 1 1 [.int .i64 (k : Int)] rfl (Src.one kB104) (by simp [Value.oneCell']) (by unfold maxLen; omega) (by omega) ?_; intro vH wH hownH hgH hatH)
            have S104 := S103.out.own_push (i := 1) rfl (bb _) hownH hgH hatH
            obtain ⟨aH104, cH104, rfl⟩ := owns_form hownH
            replace S104 := Lib.hid S104
            clear hownH hgH hatH kB104 S103
            refine hK.out _ _ ?_ (fun _ => ?_)
            · exact trivial
            clear hK
            (try simp only [put_rules])
            (refine walkT_done (by kernel_rfl) ?_)
            simp only [List.drop_succ_cons, List.drop_zero]
            (refine wpList_append_src rfl _ _ rfl Try.underlying25 hi hz0 hz1 hz2 rfl (by decide) _ (lo + 1) _ rfl (S104.out.own (i := 1) rfl) _ (ord.length - lo) _ _ rfl ((own_src' (S104.out.own (i := 2) rfl)).2.2 lo hlo2) (ints_drop_one _ _) (by unfold maxLen; omega) (by omega) ?_; intro vZ wZ hownZ hgZ hatZ)
            have S105 := S104.out.own_push (i := 1) rfl (bb _) hownZ hgZ hatZ
            obtain ⟨aZ, cZ, rfl⟩ := owns_form hownZ
            clear hownZ hgZ hatZ S104
            rw [insI_len hlo2 (x := (k : Int)), insI_map] at S105
            rw [insI_len hlo2 (x := (k : Int))]
            have SB := Lib.hid ((S105.bring (i := 3) rfl).bring (i := 2) rfl)
            have SC := Lib.hid (SB.out.front (qs := [_, _]))
            have HN := Lib.hid (HP.out.ins hlo2)
            clear SB S105
            go_wp2_with fail
            go_roundw
            case rel => exact ⟨k + 1, _, by omega, by go_num, HN, SC⟩
            case measure => simp [intOf]; omega
          · skip
            go_simp
            have S106 := S101.out.alloc_box #[.int .i64 (k : Int)] 3
            (repeat (first | simp only [drew_size] at S106 | simp only [World.size_setCell] at S106 | simp only [World.size_alloc] at S106))
            replace S106 := Lib.hid S106
            clear S101
            refine hK.out _ _ ?_ (fun _ => ?_)
            · exact trivial
            clear hK
            (try simp only [put_rules])
            (refine walkT_ready (rs := [3]) (by kernel_rfl) (by simp) (by decide) ?_; refine AllT.cons rfl (fun K hK => ?_) AllT.nil)
            go_simp
            go_at_call 53
            obtain ⟨fa107, ra107⟩ := S106.out.ints_row (i := 1) rfl hoI.out
            obtain ⟨fb107, rb107, _⟩ := row_int_take (k := lo) ra107 hlo2
            refine (l1Own_any _ (ord.take lo) _ _ rb107 (by rw [List.length_take]; omega)).mono ?_
            rintro e w107 ⟨v107, rfl, ho107, hb107⟩
            rw [List.length_take, Nat.min_eq_left hlo2] at ho107
            have S107 := S106.out.own_call hb107 ho107
            obtain ⟨a107, c107, rfl⟩ := owns_form ho107
            replace S107 := Lib.hid S107
            clear ho107 hb107 ra107 rb107 S106
            go_wp2_with fail
            refine hK.out _ _ ?_ (fun _ => ?_)
            · exact trivial
            clear hK
            (try simp only [put_rules])
            (refine walkT_ready (rs := [6]) (by kernel_rfl) (by simp) (by decide) ?_; refine AllT.cons rfl (fun K hK => ?_) AllT.nil)
            have kB108 := S107.out.cell (i := 1) rfl (o := 0) rfl
            (refine step_append_src rfl _ _ rfl Try.underlying25 hi hz0 hz1 hz2 rfl (by decide) _ lo _ rfl (S107.out.own (i := 0) rfl) _ 1 1 [.int .i64 (k : Int)] rfl (Src.one kB108) (by simp [Value.oneCell']) (by unfold maxLen; omega) (by omega) ?_; intro vH wH hownH hgH hatH)
            have S108 := S107.out.own_push (i := 0) rfl (bb _) hownH hgH hatH
            obtain ⟨aH108, cH108, rfl⟩ := owns_form hownH
            replace S108 := Lib.hid S108
            clear hownH hgH hatH kB108 S107
            refine hK.out _ _ ?_ (fun _ => ?_)
            · exact trivial
            clear hK
            (try simp only [put_rules])
            (refine walkT_done (by kernel_rfl) ?_)
            simp only [List.drop_succ_cons, List.drop_zero]
            (refine wpList_append_src rfl _ _ rfl Try.underlying25 hi hz0 hz1 hz2 rfl (by decide) _ (lo + 1) _ rfl (S108.out.own (i := 0) rfl) _ (ord.length - lo) _ _ rfl ((own_src' (S108.out.own (i := 2) rfl)).2.2 lo hlo2) (ints_drop_one _ _) (by unfold maxLen; omega) (by omega) ?_; intro vZ wZ hownZ hgZ hatZ)
            have S109 := S108.out.own_push (i := 0) rfl (bb _) hownZ hgZ hatZ
            obtain ⟨aZ, cZ, rfl⟩ := owns_form hownZ
            clear hownZ hgZ hatZ S108
            rw [insI_len hlo2 (x := (k : Int)), insI_map] at S109
            rw [insI_len hlo2 (x := (k : Int))]
            have SB := Lib.hid ((S109.bring (i := 3) rfl).bring (i := 1) rfl)
            have SC := Lib.hid (SB.out.front (qs := [_, _]))
            have HN := Lib.hid (HP.out.ins hlo2)
            clear SB S109
            go_wp2_with fail
            go_roundw
            case rel => exact ⟨k + 1, _, by omega, by go_num, HN, SC⟩
            case measure => simp [intOf]; omega
    · obtain rfl : k = L.length := by omega
      replace hok := Lib.hid hok
      go_wp2_with fail
      go_ret
      exact ⟨_, ord, rfl, HP.out, HS.out.owns_end (i := 0) rfl, HS.out.below⟩
end Go.Proofs.Ytebpknekaljgnaa
