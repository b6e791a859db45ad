/- Lemmas and contracts for a law, put together out of several texts: HlI HlJ HlK HlB HlL HlC HlF HlD. -/
import Derived.Test.YteabiokhbaekpaaMg8
import Derived.Test.YteabiokhbaekpaaMg3
import Derived.Test.YteabiokhbaekpaaMg4
import Derived.Test.YteabiokhbaekpaaMg7
import Derived.Test.YteabiokhbaekpaaMg5
/- Contract: a number put into its place, in the reference. Printed by gen_hli.py. -/
namespace Go.Proofs.Yteabiokhbaekpaa
open Go.RowKit

/-- The place of a number; the numbers with it. -/
def atP (xs : List Int) (x : Int) : Nat := (xs.takeWhile fun y => decide (y < x)).length
def put1 (xs : List Int) (x : Int) : List Int := if xs[atP xs x]? = some x then xs else xs.take (atP xs x) ++ x :: xs.drop (atP xs x)
theorem atP_end {xs : List Int} {x : Int} {k : Nat} (h : (xs.take k).all (fun y => decide (y < x)) = true) (hk : k ≤ xs.length) (he : k = xs.length ∨ ∃ h : k < xs.length, ¬ xs[k] < x) : atP xs x = k := by
  unfold atP
  have h1 : xs.takeWhile (fun y => decide (y < x)) = xs.take k := by
    conv => lhs; rw [← List.take_append_drop k xs]
    rw [List.takeWhile_append_of_pos (by simpa [List.all_eq_true] using h)]
    rcases he with rfl | ⟨hlt, hn⟩
    · rw [List.drop_length]; simp
    · rw [List.drop_eq_getElem_cons hlt, List.takeWhile_cons, if_neg (by simpa using hn), List.append_nil]
  rw [h1, List.length_take]; omega
theorem to_src {w : World} {A : Option Addr} {xs : List Int} {k : Nat} (h : IntsAt w A xs) (hk : k ≤ xs.length) : Src w A k 1 ((xs.take k).map (.int .i64)) := by
  have := Src.to (ints_src h rfl) hk
  rwa [Nat.mul_one, ← List.map_take] at this
/-- A row that can be read. -/
def RowA (w : World) (xs : List Int) (e : Ending) (w' : World) : Prop := ∃ D dc F, e = .returned (.slice D xs.length dc) ∧ Ty.int.row false w' (.slice D xs.length dc) xs F ∧ Below w.heap.size w w'

set_option maxRecDepth 100000 in
set_option maxHeartbeats 8000000 in
theorem l1Put_any (A : Option Addr) (cap : Nat) (xs : List Int) (x : Int) (F : List Nat) (w : World) (hx : Ty.int.row false w (.slice A xs.length cap) xs F) (hx64 : I64 x) (hl : xs.length ≤ 1000) :
    Calls Try.prog 42 #[.slice A xs.length cap, .int .i64 x] w (RowA w (put1 xs x)) := by
  obtain ⟨i0, hi0, hy0, hy1, hy2⟩ := info_parts infoInt
  obtain ⟨_, _, e1, hI⟩ := ints_row hx
  cases e1
  obtain ⟨_, _, e2, hcp, -, -, -⟩ := row_int hx
  cases e2
  have hH := Lib.hid hI
  have hX := Lib.hid hx
  clear hI hx
  go_enter Try.func42, Try.ntmps42
  go_wp2_with fail
  go_loop [5] (fun i => ∃ k : Nat, k ≤ xs.length ∧ i = .int .i64 k ∧ Hid ((xs.take k).all (fun y => decide (y < x)) = true)) (fun i => xs.length - (intOf i).toNat)
  case atStart => exact ⟨0, Nat.zero_le _, rfl, by simp [Hid]⟩
  case round =>
    obtain ⟨k, hk, rfl, HR⟩ := hrel
    by_cases hgo : ∃ h : k < xs.length, xs[k] < x
    · obtain ⟨hlt, hgo⟩ := hgo
      obtain ⟨b1, o1, hA, k0⟩ := hH.out.at_ k hlt
      subst hA
      have HN : Hid ((xs.take (k + 1)).all (fun y => decide (y < x)) = true) := by
        unfold Hid
        rw [List.take_succ_eq_append_getElem hlt, List.all_append, HR.out]
        simp [hgo]
      have hd : decide (xs[k] < x) = true := decide_eq_true hgo
      generalize xs[k] = y at *
      clear HR
      go_wp2_with fail
      go_round
      case rel => exact ⟨k + 1, by omega, by go_num, HN⟩
      case measure => simp [intOf]; omega
    · have hat : Hid (atP xs x = k) := by
        refine atP_end HR.out hk ?_
        by_cases h : k < xs.length
        · exact .inr ⟨h, fun h2 => hgo ⟨h, h2⟩⟩
        · exact .inl (by omega)
      by_cases hlt : k < xs.length
      · obtain ⟨b1, o1, hA, k0⟩ := hH.out.at_ k hlt
        subst hA
        have hd : decide (xs[k] < x) = false := decide_eq_false (fun h2 => hgo ⟨hlt, h2⟩)
        have hnlt : ¬ xs[k] < x := fun h2 => hgo ⟨hlt, h2⟩
        by_cases hq : xs[k] = x
        · have hP : Hid (put1 xs x = xs) := by unfold Hid put1; rw [hat.out, if_pos (by rw [List.getElem?_eq_getElem hlt, hq])]
          have hqb : (xs[k] == x) = true := by simp [hq]
          generalize xs[k] = y at *
          clear HR hgo hat
          go_wp2_with fail
          go_ret
          unfold RowA
          rw [hP.out]
          exact ⟨_, _, F, rfl, hX.out, bb _⟩
        have hP : Hid (put1 xs x = xs.take k ++ x :: xs.drop k) := by unfold Hid put1; rw [hat.out, if_neg (by rw [List.getElem?_eq_getElem hlt]; simpa using hq)]
        have hqb : (xs[k] == x) = false := by simp [hq]
        generalize xs[k] = y at *
        clear HR hgo hat
        have hto := Lib.hid (to_src hH.out hk)
        have hfr := Lib.hid (row_int_from (k := k) hX.out hk)
        have HS := Lib.hid (Sp.start w)
        go_wp2_with fail
        refine wp_region_held_lit (S := (fun _ => True)) 13 [false, false, false, false, false, false, false, false, false, false, false, false, false] (by kernel_rfl) (by kernel_rfl) (by kernel_rfl) ?_ ?_
        · trivial
        intro hS0
        (refine wpAnyH_take (i := 1) (v := ?_) rfl (by kernel_rfl) (by kernel_rfl) (by kernel_rfl) (fun _ _ _ h => h) (Or.inl ⟨by rfl, ?_⟩) (by assumption) ?_; rotate_left; (focus (intro w hSw; (try dsimp only at hSw); go_simp; (try with_reducible rfl); done)); (try simp only [put_rules]))
        (refine wpAnyH_take (i := 2) (v := ?_) rfl (by kernel_rfl) (by kernel_rfl) (by kernel_rfl) (fun _ _ _ h => h) (Or.inl ⟨by rfl, ?_⟩) (by assumption) ?_; rotate_left; (focus (intro w hSw; (try dsimp only at hSw); go_simp; (try with_reducible rfl); done)); (try simp only [put_rules]))
        (refine wpAnyH_take (i := 3) (v := .slice _ k cap) rfl (by kernel_rfl) (by kernel_rfl) (by kernel_rfl) (fun _ _ _ h => h) (Or.inl ⟨by rfl, fun _ _ => exec_slice_to rfl rfl rfl Try.underlying26 hi0 (by omega)⟩) (by assumption) ?_; (try simp only [put_rules]))
        (refine wpAnyH_take (i := 5) (v := ?_) rfl (by kernel_rfl) (by kernel_rfl) (by kernel_rfl) (fun _ _ _ h => h) (Or.inl ⟨by rfl, ?_⟩) (by assumption) ?_; rotate_left; (focus (intro w hSw; (try dsimp only at hSw); go_simp; (try with_reducible rfl); done)); (try simp only [put_rules]))
        (refine wpAnyH_take (i := 8) (v := ?_) rfl (by kernel_rfl) (by kernel_rfl) (by kernel_rfl) (fun _ _ _ h => h) (Or.inl ⟨by rfl, ?_⟩) (by assumption) ?_; rotate_left; (focus (intro w hSw; (try dsimp only at hSw); go_simp; (try with_reducible rfl); done)); (try simp only [put_rules]))
        (refine wpAnyH_take (i := 9) (v := ?_) rfl (by kernel_rfl) (by kernel_rfl) (by kernel_rfl) (fun _ _ _ h => h) (Or.inl ⟨by rfl, ?_⟩) (by assumption) ?_; rotate_left; (focus (intro w hSw; (try dsimp only at hSw); go_simp; (try with_reducible rfl); done)); (try simp only [put_rules]))
        (refine wpAnyH_take (i := 10) (v := .slice (cutA _ cap k 1) (xs.length - k) (cap - k)) rfl (by kernel_rfl) (by kernel_rfl) (by kernel_rfl) (fun _ _ _ h => h) (Or.inl ⟨by rfl, fun _ _ => exec_slice_from rfl rfl rfl Try.underlying26 hi0 hy1 (by omega)⟩) (by assumption) ?_; (try simp only [put_rules]))
        (refine wpAnyH_ready (rs := [0, 6]) (by kernel_rfl) (by simp) ?_; refine AllReadyH.cons rfl (fun K hK => ?_) (AllReadyH.cons rfl (fun K hK => ?_) AllReadyH.nil))
        · skip
          go_simp
          have S1 := HS.out.drew.own_made 3 1
          (try simp only [World.size_alloc, show w.drew.heap.size = w.heap.size from rfl] at S1)
          replace S1 := Lib.hid S1
          refine hK.out _ _ trivial (fun _ => ?_)
          clear hK HS
          (try simp only [put_rules])
          (refine wpAnyH_ready (rs := [4, 6]) (by kernel_rfl) (by simp) ?_; refine AllReadyH.cons rfl (fun K hK => ?_) (AllReadyH.cons rfl (fun K hK => ?_) AllReadyH.nil))
          · skip
            have hsrc := hto.out.grow S1.out.below
            have hown := S1.out.own (i := 0) rfl
            (refine step_append_src rfl _ _ rfl Try.underlying26 hi0 hy0 hy1 hy2 rfl (by decide) _ 0 _ rfl hown _ k cap _ rfl hsrc (ints_one _) (by unfold maxLen; omega) (by omega) ?_; intro v2 w2 hown2 hg2 hat2)
            have S2 := S1.out.own_push (i := 0) rfl (bb _) hown2 hg2 hat2
            obtain ⟨a2, c2, rfl⟩ := own_slice hown2
            rw [Nat.zero_add k] at S2 ⊢
            simp only [List.set_cons_zero, List.set_cons_succ] at S2
            refine hK.out _ _ trivial (fun _ => ?_)
            replace S2 := Lib.hid S2
            clear hK S1 hown2 hg2 hat2 hown hsrc
            (try simp only [put_rules])
            (refine wpAnyH_ready (rs := [6]) (by kernel_rfl) (by simp) ?_; refine AllReadyH.cons rfl (fun K hK => ?_) AllReadyH.nil)
            go_simp
            have S3 := S2.out.alloc_box #[.int .i64 x] 3
            (try simp only [World.size_alloc, show w.drew.heap.size = w.heap.size from rfl] at S3)
            replace S3 := Lib.hid S3
            refine hK.out _ _ trivial (fun _ => ?_)
            clear hK S2
            (try simp only [put_rules])
            (refine wpAnyH_ready (rs := [7]) (by kernel_rfl) (by simp) ?_; refine AllReadyH.cons rfl (fun K hK => ?_) AllReadyH.nil)
            have hown := S3.out.own (i := 1) rfl
            have k9 := S3.out.cell (i := 0) rfl (o := 0) rfl
            (refine step_append_src rfl _ _ rfl Try.underlying26 hi0 hy0 hy1 hy2 rfl (by decide) _ _ _ rfl hown _ 1 1 [.int .i64 x] rfl (Src.one k9) (by simp [Value.oneCell']) (by unfold maxLen; omega) (by omega) ?_; intro v3 w3 hown3 hg3 hat3)
            have S4 := S3.out.own_push (i := 1) rfl (bb _) hown3 hg3 hat3
            obtain ⟨a3, c3, rfl⟩ := own_slice hown3
            simp only [List.set_cons_zero, List.set_cons_succ] at S4
            refine hK.out _ _ trivial (fun _ => ?_)
            replace S4 := Lib.hid (Sp.pick [1] S4 rfl)
            clear hK S3 hown3 hg3 hat3 hown k9
            (try simp only [put_rules])
            (refine wpAnyH_ready (rs := [11]) (by kernel_rfl) (by simp) ?_; refine AllReadyH.cons rfl (fun K hK => ?_) AllReadyH.nil)
            have hsrc := hfr.out.grow S4.out.below
            have hown := S4.out.own (i := 0) rfl
            (refine step_append_src rfl _ _ rfl Try.underlying26 hi0 hy0 hy1 hy2 rfl (by decide) _ _ _ rfl hown _ (xs.length - k) (cap - k) _ rfl hsrc (ints_one _) (by unfold maxLen; omega) (by omega) ?_; intro v4 w4 hown4 hg4 hat4)
            have S9 := S4.out.own_push (i := 0) rfl (bb _) hown4 hg4 hat4
            obtain ⟨a4, c4, rfl⟩ := own_slice hown4
            refine hK.out _ _ trivial (fun _ => ?_)
            clear hK S4 hown4 hg4 hat4 hown hsrc
            (try simp only [put_rules])
            have SZ : Sp w w4 [Own 3 1 (.slice a4 (xs.take k ++ x :: xs.drop k).length c4) (xs.take k ++ x :: xs.drop k).length ((xs.take k ++ x :: xs.drop k).map (.int .i64))] := by
              have e1 : (xs.take k ++ x :: xs.drop k).length = k + 1 + (xs.length - k) := by rw [List.length_append, List.length_cons, List.length_drop, List.length_take]; omega
              rw [e1]
              simpa using S9
            have hlen : k + 1 + (xs.length - k) = (xs.take k ++ x :: xs.drop k).length := by rw [List.length_append, List.length_cons, List.length_drop, List.length_take]; omega
            rw [hlen]
            clear S9 hlen
            have hi64 : ∀ y ∈ xs.take k ++ x :: xs.drop k, I64 y := fun y hy => by
              rcases List.mem_append.1 hy with hy | hy
              · exact hH.out.ok y (List.mem_of_mem_take hy)
              · rcases List.mem_cons.1 hy with rfl | hy
                · exact hx64
                · exact hH.out.ok y (List.mem_of_mem_drop hy)
            obtain ⟨F9, hr9, -, -⟩ := own_row (SZ.own (i := 0) rfl) hi64
            have hr := Lib.hid (Ty.row_down hr9)
            have hB := Lib.hid SZ.below
            clear SZ hr9
            rw [← hP.out] at hr ⊢
            generalize put1 xs x = zs at *
            (refine wpAnyH_ready (rs := [12]) (by kernel_rfl) (by simp) ?_; refine AllReadyH.cons rfl (fun K hK => ?_) AllReadyH.nil)
            go_simp
            refine hK.out _ _ trivial (fun _ => ?_)
            clear hK
            (try simp only [put_rules])
            (refine wpAnyH_done (by kernel_rfl) ?_ _)
            go_wp2_with fail
            go_ret
            exact ⟨a4, c4, F9, rfl, hr.out, hB.out⟩
          · skip
            go_simp
            have S2 := S1.out.alloc_box #[.int .i64 x] 3
            (try simp only [World.size_alloc, show w.drew.heap.size = w.heap.size from rfl] at S2)
            replace S2 := Lib.hid S2
            refine hK.out _ _ trivial (fun _ => ?_)
            clear hK S1
            (try simp only [put_rules])
            (refine wpAnyH_ready (rs := [4]) (by kernel_rfl) (by simp) ?_; refine AllReadyH.cons rfl (fun K hK => ?_) AllReadyH.nil)
            have hsrc := hto.out.grow S2.out.below
            have hown := S2.out.own (i := 1) rfl
            (refine step_append_src rfl _ _ rfl Try.underlying26 hi0 hy0 hy1 hy2 rfl (by decide) _ 0 _ rfl hown _ k cap _ rfl hsrc (ints_one _) (by unfold maxLen; omega) (by omega) ?_; intro v2 w2 hown2 hg2 hat2)
            have S3 := S2.out.own_push (i := 1) rfl (bb _) hown2 hg2 hat2
            obtain ⟨a2, c2, rfl⟩ := own_slice hown2
            rw [Nat.zero_add k] at S3 ⊢
            simp only [List.set_cons_zero, List.set_cons_succ] at S3
            refine hK.out _ _ trivial (fun _ => ?_)
            replace S3 := Lib.hid S3
            clear hK S2 hown2 hg2 hat2 hown hsrc
            (try simp only [put_rules])
            (refine wpAnyH_ready (rs := [7]) (by kernel_rfl) (by simp) ?_; refine AllReadyH.cons rfl (fun K hK => ?_) AllReadyH.nil)
            have hown := S3.out.own (i := 1) rfl
            have k9 := S3.out.cell (i := 0) rfl (o := 0) rfl
            (refine step_append_src rfl _ _ rfl Try.underlying26 hi0 hy0 hy1 hy2 rfl (by decide) _ _ _ rfl hown _ 1 1 [.int .i64 x] rfl (Src.one k9) (by simp [Value.oneCell']) (by unfold maxLen; omega) (by omega) ?_; intro v3 w3 hown3 hg3 hat3)
            have S4 := S3.out.own_push (i := 1) rfl (bb _) hown3 hg3 hat3
            obtain ⟨a3, c3, rfl⟩ := own_slice hown3
            simp only [List.set_cons_zero, List.set_cons_succ] at S4
            refine hK.out _ _ trivial (fun _ => ?_)
            replace S4 := Lib.hid (Sp.pick [1] S4 rfl)
            clear hK S3 hown3 hg3 hat3 hown k9
            (try simp only [put_rules])
            (refine wpAnyH_ready (rs := [11]) (by kernel_rfl) (by simp) ?_; refine AllReadyH.cons rfl (fun K hK => ?_) AllReadyH.nil)
            have hsrc := hfr.out.grow S4.out.below
            have hown := S4.out.own (i := 0) rfl
            (refine step_append_src rfl _ _ rfl Try.underlying26 hi0 hy0 hy1 hy2 rfl (by decide) _ _ _ rfl hown _ (xs.length - k) (cap - k) _ rfl hsrc (ints_one _) (by unfold maxLen; omega) (by omega) ?_; intro v4 w4 hown4 hg4 hat4)
            have S9 := S4.out.own_push (i := 0) rfl (bb _) hown4 hg4 hat4
            obtain ⟨a4, c4, rfl⟩ := own_slice hown4
            refine hK.out _ _ trivial (fun _ => ?_)
            clear hK S4 hown4 hg4 hat4 hown hsrc
            (try simp only [put_rules])
            have SZ : Sp w w4 [Own 3 1 (.slice a4 (xs.take k ++ x :: xs.drop k).length c4) (xs.take k ++ x :: xs.drop k).length ((xs.take k ++ x :: xs.drop k).map (.int .i64))] := by
              have e1 : (xs.take k ++ x :: xs.drop k).length = k + 1 + (xs.length - k) := by rw [List.length_append, List.length_cons, List.length_drop, List.length_take]; omega
              rw [e1]
              simpa using S9
            have hlen : k + 1 + (xs.length - k) = (xs.take k ++ x :: xs.drop k).length := by rw [List.length_append, List.length_cons, List.length_drop, List.length_take]; omega
            rw [hlen]
            clear S9 hlen
            have hi64 : ∀ y ∈ xs.take k ++ x :: xs.drop k, I64 y := fun y hy => by
              rcases List.mem_append.1 hy with hy | hy
              · exact hH.out.ok y (List.mem_of_mem_take hy)
              · rcases List.mem_cons.1 hy with rfl | hy
                · exact hx64
                · exact hH.out.ok y (List.mem_of_mem_drop hy)
            obtain ⟨F9, hr9, -, -⟩ := own_row (SZ.own (i := 0) rfl) hi64
            have hr := Lib.hid (Ty.row_down hr9)
            have hB := Lib.hid SZ.below
            clear SZ hr9
            rw [← hP.out] at hr ⊢
            generalize put1 xs x = zs at *
            (refine wpAnyH_ready (rs := [12]) (by kernel_rfl) (by simp) ?_; refine AllReadyH.cons rfl (fun K hK => ?_) AllReadyH.nil)
            go_simp
            refine hK.out _ _ trivial (fun _ => ?_)
            clear hK
            (try simp only [put_rules])
            (refine wpAnyH_done (by kernel_rfl) ?_ _)
            go_wp2_with fail
            go_ret
            exact ⟨a4, c4, F9, rfl, hr.out, hB.out⟩
        · skip
          go_simp
          have S1 := HS.out.drew.alloc_box #[.int .i64 x] 3
          (try simp only [World.size_alloc, show w.drew.heap.size = w.heap.size from rfl] at S1)
          replace S1 := Lib.hid S1
          refine hK.out _ _ trivial (fun _ => ?_)
          clear hK HS
          (try simp only [put_rules])
          (refine wpAnyH_ready (rs := [0]) (by kernel_rfl) (by simp) ?_; refine AllReadyH.cons rfl (fun K hK => ?_) AllReadyH.nil)
          go_simp
          have S2 := S1.out.own_made 3 1
          (try simp only [World.size_alloc, show w.drew.heap.size = w.heap.size from rfl] at S2)
          replace S2 := Lib.hid S2
          refine hK.out _ _ trivial (fun _ => ?_)
          clear hK S1
          (try simp only [put_rules])
          (refine wpAnyH_ready (rs := [4]) (by kernel_rfl) (by simp) ?_; refine AllReadyH.cons rfl (fun K hK => ?_) AllReadyH.nil)
          have hsrc := hto.out.grow S2.out.below
          have hown := S2.out.own (i := 0) rfl
          (refine step_append_src rfl _ _ rfl Try.underlying26 hi0 hy0 hy1 hy2 rfl (by decide) _ 0 _ rfl hown _ k cap _ rfl hsrc (ints_one _) (by unfold maxLen; omega) (by omega) ?_; intro v2 w2 hown2 hg2 hat2)
          have S3 := S2.out.own_push (i := 0) rfl (bb _) hown2 hg2 hat2
          obtain ⟨a2, c2, rfl⟩ := own_slice hown2
          rw [Nat.zero_add k] at S3 ⊢
          simp only [List.set_cons_zero, List.set_cons_succ] at S3
          refine hK.out _ _ trivial (fun _ => ?_)
          replace S3 := Lib.hid S3
          clear hK S2 hown2 hg2 hat2 hown hsrc
          (try simp only [put_rules])
          (refine wpAnyH_ready (rs := [7]) (by kernel_rfl) (by simp) ?_; refine AllReadyH.cons rfl (fun K hK => ?_) AllReadyH.nil)
          have hown := S3.out.own (i := 0) rfl
          have k9 := S3.out.cell (i := 1) rfl (o := 0) rfl
          (refine step_append_src rfl _ _ rfl Try.underlying26 hi0 hy0 hy1 hy2 rfl (by decide) _ _ _ rfl hown _ 1 1 [.int .i64 x] rfl (Src.one k9) (by simp [Value.oneCell']) (by unfold maxLen; omega) (by omega) ?_; intro v3 w3 hown3 hg3 hat3)
          have S4 := S3.out.own_push (i := 0) rfl (bb _) hown3 hg3 hat3
          obtain ⟨a3, c3, rfl⟩ := own_slice hown3
          simp only [List.set_cons_zero, List.set_cons_succ] at S4
          refine hK.out _ _ trivial (fun _ => ?_)
          replace S4 := Lib.hid (Sp.pick [0] S4 rfl)
          clear hK S3 hown3 hg3 hat3 hown k9
          (try simp only [put_rules])
          (refine wpAnyH_ready (rs := [11]) (by kernel_rfl) (by simp) ?_; refine AllReadyH.cons rfl (fun K hK => ?_) AllReadyH.nil)
          have hsrc := hfr.out.grow S4.out.below
          have hown := S4.out.own (i := 0) rfl
          (refine step_append_src rfl _ _ rfl Try.underlying26 hi0 hy0 hy1 hy2 rfl (by decide) _ _ _ rfl hown _ (xs.length - k) (cap - k) _ rfl hsrc (ints_one _) (by unfold maxLen; omega) (by omega) ?_; intro v4 w4 hown4 hg4 hat4)
          have S9 := S4.out.own_push (i := 0) rfl (bb _) hown4 hg4 hat4
          obtain ⟨a4, c4, rfl⟩ := own_slice hown4
          refine hK.out _ _ trivial (fun _ => ?_)
          clear hK S4 hown4 hg4 hat4 hown hsrc
          (try simp only [put_rules])
          have SZ : Sp w w4 [Own 3 1 (.slice a4 (xs.take k ++ x :: xs.drop k).length c4) (xs.take k ++ x :: xs.drop k).length ((xs.take k ++ x :: xs.drop k).map (.int .i64))] := by
            have e1 : (xs.take k ++ x :: xs.drop k).length = k + 1 + (xs.length - k) := by rw [List.length_append, List.length_cons, List.length_drop, List.length_take]; omega
            rw [e1]
            simpa using S9
          have hlen : k + 1 + (xs.length - k) = (xs.take k ++ x :: xs.drop k).length := by rw [List.length_append, List.length_cons, List.length_drop, List.length_take]; omega
          rw [hlen]
          clear S9 hlen
          have hi64 : ∀ y ∈ xs.take k ++ x :: xs.drop k, I64 y := fun y hy => by
            rcases List.mem_append.1 hy with hy | hy
            · exact hH.out.ok y (List.mem_of_mem_take hy)
            · rcases List.mem_cons.1 hy with rfl | hy
              · exact hx64
              · exact hH.out.ok y (List.mem_of_mem_drop hy)
          obtain ⟨F9, hr9, -, -⟩ := own_row (SZ.own (i := 0) rfl) hi64
          have hr := Lib.hid (Ty.row_down hr9)
          have hB := Lib.hid SZ.below
          clear SZ hr9
          rw [← hP.out] at hr ⊢
          generalize put1 xs x = zs at *
          (refine wpAnyH_ready (rs := [12]) (by kernel_rfl) (by simp) ?_; refine AllReadyH.cons rfl (fun K hK => ?_) AllReadyH.nil)
          go_simp
          refine hK.out _ _ trivial (fun _ => ?_)
          clear hK
          (try simp only [put_rules])
          (refine wpAnyH_done (by kernel_rfl) ?_ _)
          go_wp2_with fail
          go_ret
          exact ⟨a4, c4, F9, rfl, hr.out, hB.out⟩
      · have hke : Hid (k = xs.length) := by unfold Hid; omega
        have hP : Hid (put1 xs x = xs.take k ++ x :: xs.drop k) := by unfold Hid put1; rw [hat.out, if_neg (by rw [List.getElem?_eq_none (by have := hke.out; omega)]; simp)]
        clear HR hgo hat
        have hto := Lib.hid (to_src hH.out hk)
        have hfr := Lib.hid (row_int_from (k := k) hX.out hk)
        have HS := Lib.hid (Sp.start w)
        go_wp2_with fail
        refine wp_region_held_lit (S := (fun _ => True)) 13 [false, false, false, false, false, false, false, false, false, false, false, false, false] (by kernel_rfl) (by kernel_rfl) (by kernel_rfl) ?_ ?_
        · trivial
        intro hS0
        (refine wpAnyH_take (i := 1) (v := ?_) rfl (by kernel_rfl) (by kernel_rfl) (by kernel_rfl) (fun _ _ _ h => h) (Or.inl ⟨by rfl, ?_⟩) (by assumption) ?_; rotate_left; (focus (intro w hSw; (try dsimp only at hSw); go_simp; (try with_reducible rfl); done)); (try simp only [put_rules]))
        (refine wpAnyH_take (i := 2) (v := ?_) rfl (by kernel_rfl) (by kernel_rfl) (by kernel_rfl) (fun _ _ _ h => h) (Or.inl ⟨by rfl, ?_⟩) (by assumption) ?_; rotate_left; (focus (intro w hSw; (try dsimp only at hSw); go_simp; (try with_reducible rfl); done)); (try simp only [put_rules]))
        (refine wpAnyH_take (i := 3) (v := .slice _ k cap) rfl (by kernel_rfl) (by kernel_rfl) (by kernel_rfl) (fun _ _ _ h => h) (Or.inl ⟨by rfl, fun _ _ => exec_slice_to rfl rfl rfl Try.underlying26 hi0 (by omega)⟩) (by assumption) ?_; (try simp only [put_rules]))
        (refine wpAnyH_take (i := 5) (v := ?_) rfl (by kernel_rfl) (by kernel_rfl) (by kernel_rfl) (fun _ _ _ h => h) (Or.inl ⟨by rfl, ?_⟩) (by assumption) ?_; rotate_left; (focus (intro w hSw; (try dsimp only at hSw); go_simp; (try with_reducible rfl); done)); (try simp only [put_rules]))
        (refine wpAnyH_take (i := 8) (v := ?_) rfl (by kernel_rfl) (by kernel_rfl) (by kernel_rfl) (fun _ _ _ h => h) (Or.inl ⟨by rfl, ?_⟩) (by assumption) ?_; rotate_left; (focus (intro w hSw; (try dsimp only at hSw); go_simp; (try with_reducible rfl); done)); (try simp only [put_rules]))
        (refine wpAnyH_take (i := 9) (v := ?_) rfl (by kernel_rfl) (by kernel_rfl) (by kernel_rfl) (fun _ _ _ h => h) (Or.inl ⟨by rfl, ?_⟩) (by assumption) ?_; rotate_left; (focus (intro w hSw; (try dsimp only at hSw); go_simp; (try with_reducible rfl); done)); (try simp only [put_rules]))
        (refine wpAnyH_take (i := 10) (v := .slice (cutA _ cap k 1) (xs.length - k) (cap - k)) rfl (by kernel_rfl) (by kernel_rfl) (by kernel_rfl) (fun _ _ _ h => h) (Or.inl ⟨by rfl, fun _ _ => exec_slice_from rfl rfl rfl Try.underlying26 hi0 hy1 (by omega)⟩) (by assumption) ?_; (try simp only [put_rules]))
        (refine wpAnyH_ready (rs := [0, 6]) (by kernel_rfl) (by simp) ?_; refine AllReadyH.cons rfl (fun K hK => ?_) (AllReadyH.cons rfl (fun K hK => ?_) AllReadyH.nil))
        · skip
          go_simp
          have S1 := HS.out.drew.own_made 3 1
          (try simp only [World.size_alloc, show w.drew.heap.size = w.heap.size from rfl] at S1)
          replace S1 := Lib.hid S1
          refine hK.out _ _ trivial (fun _ => ?_)
          clear hK HS
          (try simp only [put_rules])
          (refine wpAnyH_ready (rs := [4, 6]) (by kernel_rfl) (by simp) ?_; refine AllReadyH.cons rfl (fun K hK => ?_) (AllReadyH.cons rfl (fun K hK => ?_) AllReadyH.nil))
          · skip
            have hsrc := hto.out.grow S1.out.below
            have hown := S1.out.own (i := 0) rfl
            (refine step_append_src rfl _ _ rfl Try.underlying26 hi0 hy0 hy1 hy2 rfl (by decide) _ 0 _ rfl hown _ k cap _ rfl hsrc (ints_one _) (by unfold maxLen; omega) (by omega) ?_; intro v2 w2 hown2 hg2 hat2)
            have S2 := S1.out.own_push (i := 0) rfl (bb _) hown2 hg2 hat2
            obtain ⟨a2, c2, rfl⟩ := own_slice hown2
            rw [Nat.zero_add k] at S2 ⊢
            simp only [List.set_cons_zero, List.set_cons_succ] at S2
            refine hK.out _ _ trivial (fun _ => ?_)
            replace S2 := Lib.hid S2
            clear hK S1 hown2 hg2 hat2 hown hsrc
            (try simp only [put_rules])
            (refine wpAnyH_ready (rs := [6]) (by kernel_rfl) (by simp) ?_; refine AllReadyH.cons rfl (fun K hK => ?_) AllReadyH.nil)
            go_simp
            have S3 := S2.out.alloc_box #[.int .i64 x] 3
            (try simp only [World.size_alloc, show w.drew.heap.size = w.heap.size from rfl] at S3)
            replace S3 := Lib.hid S3
            refine hK.out _ _ trivial (fun _ => ?_)
            clear hK S2
            (try simp only [put_rules])
            (refine wpAnyH_ready (rs := [7]) (by kernel_rfl) (by simp) ?_; refine AllReadyH.cons rfl (fun K hK => ?_) AllReadyH.nil)
            have hown := S3.out.own (i := 1) rfl
            have k9 := S3.out.cell (i := 0) rfl (o := 0) rfl
            (refine step_append_src rfl _ _ rfl Try.underlying26 hi0 hy0 hy1 hy2 rfl (by decide) _ _ _ rfl hown _ 1 1 [.int .i64 x] rfl (Src.one k9) (by simp [Value.oneCell']) (by unfold maxLen; omega) (by omega) ?_; intro v3 w3 hown3 hg3 hat3)
            have S4 := S3.out.own_push (i := 1) rfl (bb _) hown3 hg3 hat3
            obtain ⟨a3, c3, rfl⟩ := own_slice hown3
            simp only [List.set_cons_zero, List.set_cons_succ] at S4
            refine hK.out _ _ trivial (fun _ => ?_)
            replace S4 := Lib.hid (Sp.pick [1] S4 rfl)
            clear hK S3 hown3 hg3 hat3 hown k9
            (try simp only [put_rules])
            (refine wpAnyH_ready (rs := [11]) (by kernel_rfl) (by simp) ?_; refine AllReadyH.cons rfl (fun K hK => ?_) AllReadyH.nil)
            have hsrc := hfr.out.grow S4.out.below
            have hown := S4.out.own (i := 0) rfl
            (refine step_append_src rfl _ _ rfl Try.underlying26 hi0 hy0 hy1 hy2 rfl (by decide) _ _ _ rfl hown _ (xs.length - k) (cap - k) _ rfl hsrc (ints_one _) (by unfold maxLen; omega) (by omega) ?_; intro v4 w4 hown4 hg4 hat4)
            have S9 := S4.out.own_push (i := 0) rfl (bb _) hown4 hg4 hat4
            obtain ⟨a4, c4, rfl⟩ := own_slice hown4
            refine hK.out _ _ trivial (fun _ => ?_)
            clear hK S4 hown4 hg4 hat4 hown hsrc
            (try simp only [put_rules])
            have SZ : Sp w w4 [Own 3 1 (.slice a4 (xs.take k ++ x :: xs.drop k).length c4) (xs.take k ++ x :: xs.drop k).length ((xs.take k ++ x :: xs.drop k).map (.int .i64))] := by
              have e1 : (xs.take k ++ x :: xs.drop k).length = k + 1 + (xs.length - k) := by rw [List.length_append, List.length_cons, List.length_drop, List.length_take]; omega
              rw [e1]
              simpa using S9
            have hlen : k + 1 + (xs.length - k) = (xs.take k ++ x :: xs.drop k).length := by rw [List.length_append, List.length_cons, List.length_drop, List.length_take]; omega
            rw [hlen]
            clear S9 hlen
            have hi64 : ∀ y ∈ xs.take k ++ x :: xs.drop k, I64 y := fun y hy => by
              rcases List.mem_append.1 hy with hy | hy
              · exact hH.out.ok y (List.mem_of_mem_take hy)
              · rcases List.mem_cons.1 hy with rfl | hy
                · exact hx64
                · exact hH.out.ok y (List.mem_of_mem_drop hy)
            obtain ⟨F9, hr9, -, -⟩ := own_row (SZ.own (i := 0) rfl) hi64
            have hr := Lib.hid (Ty.row_down hr9)
            have hB := Lib.hid SZ.below
            clear SZ hr9
            rw [← hP.out] at hr ⊢
            generalize put1 xs x = zs at *
            (refine wpAnyH_ready (rs := [12]) (by kernel_rfl) (by simp) ?_; refine AllReadyH.cons rfl (fun K hK => ?_) AllReadyH.nil)
            go_simp
            refine hK.out _ _ trivial (fun _ => ?_)
            clear hK
            (try simp only [put_rules])
            (refine wpAnyH_done (by kernel_rfl) ?_ _)
            go_wp2_with fail
            go_ret
            exact ⟨a4, c4, F9, rfl, hr.out, hB.out⟩
          · skip
            go_simp
            have S2 := S1.out.alloc_box #[.int .i64 x] 3
            (try simp only [World.size_alloc, show w.drew.heap.size = w.heap.size from rfl] at S2)
            replace S2 := Lib.hid S2
            refine hK.out _ _ trivial (fun _ => ?_)
            clear hK S1
            (try simp only [put_rules])
            (refine wpAnyH_ready (rs := [4]) (by kernel_rfl) (by simp) ?_; refine AllReadyH.cons rfl (fun K hK => ?_) AllReadyH.nil)
            have hsrc := hto.out.grow S2.out.below
            have hown := S2.out.own (i := 1) rfl
            (refine step_append_src rfl _ _ rfl Try.underlying26 hi0 hy0 hy1 hy2 rfl (by decide) _ 0 _ rfl hown _ k cap _ rfl hsrc (ints_one _) (by unfold maxLen; omega) (by omega) ?_; intro v2 w2 hown2 hg2 hat2)
            have S3 := S2.out.own_push (i := 1) rfl (bb _) hown2 hg2 hat2
            obtain ⟨a2, c2, rfl⟩ := own_slice hown2
            rw [Nat.zero_add k] at S3 ⊢
            simp only [List.set_cons_zero, List.set_cons_succ] at S3
            refine hK.out _ _ trivial (fun _ => ?_)
            replace S3 := Lib.hid S3
            clear hK S2 hown2 hg2 hat2 hown hsrc
            (try simp only [put_rules])
            (refine wpAnyH_ready (rs := [7]) (by kernel_rfl) (by simp) ?_; refine AllReadyH.cons rfl (fun K hK => ?_) AllReadyH.nil)
            have hown := S3.out.own (i := 1) rfl
            have k9 := S3.out.cell (i := 0) rfl (o := 0) rfl
            (refine step_append_src rfl _ _ rfl Try.underlying26 hi0 hy0 hy1 hy2 rfl (by decide) _ _ _ rfl hown _ 1 1 [.int .i64 x] rfl (Src.one k9) (by simp [Value.oneCell']) (by unfold maxLen; omega) (by omega) ?_; intro v3 w3 hown3 hg3 hat3)
            have S4 := S3.out.own_push (i := 1) rfl (bb _) hown3 hg3 hat3
            obtain ⟨a3, c3, rfl⟩ := own_slice hown3
            simp only [List.set_cons_zero, List.set_cons_succ] at S4
            refine hK.out _ _ trivial (fun _ => ?_)
            replace S4 := Lib.hid (Sp.pick [1] S4 rfl)
            clear hK S3 hown3 hg3 hat3 hown k9
            (try simp only [put_rules])
            (refine wpAnyH_ready (rs := [11]) (by kernel_rfl) (by simp) ?_; refine AllReadyH.cons rfl (fun K hK => ?_) AllReadyH.nil)
            have hsrc := hfr.out.grow S4.out.below
            have hown := S4.out.own (i := 0) rfl
            (refine step_append_src rfl _ _ rfl Try.underlying26 hi0 hy0 hy1 hy2 rfl (by decide) _ _ _ rfl hown _ (xs.length - k) (cap - k) _ rfl hsrc (ints_one _) (by unfold maxLen; omega) (by omega) ?_; intro v4 w4 hown4 hg4 hat4)
            have S9 := S4.out.own_push (i := 0) rfl (bb _) hown4 hg4 hat4
            obtain ⟨a4, c4, rfl⟩ := own_slice hown4
            refine hK.out _ _ trivial (fun _ => ?_)
            clear hK S4 hown4 hg4 hat4 hown hsrc
            (try simp only [put_rules])
            have SZ : Sp w w4 [Own 3 1 (.slice a4 (xs.take k ++ x :: xs.drop k).length c4) (xs.take k ++ x :: xs.drop k).length ((xs.take k ++ x :: xs.drop k).map (.int .i64))] := by
              have e1 : (xs.take k ++ x :: xs.drop k).length = k + 1 + (xs.length - k) := by rw [List.length_append, List.length_cons, List.length_drop, List.length_take]; omega
              rw [e1]
              simpa using S9
            have hlen : k + 1 + (xs.length - k) = (xs.take k ++ x :: xs.drop k).length := by rw [List.length_append, List.length_cons, List.length_drop, List.length_take]; omega
            rw [hlen]
            clear S9 hlen
            have hi64 : ∀ y ∈ xs.take k ++ x :: xs.drop k, I64 y := fun y hy => by
              rcases List.mem_append.1 hy with hy | hy
              · exact hH.out.ok y (List.mem_of_mem_take hy)
              · rcases List.mem_cons.1 hy with rfl | hy
                · exact hx64
                · exact hH.out.ok y (List.mem_of_mem_drop hy)
            obtain ⟨F9, hr9, -, -⟩ := own_row (SZ.own (i := 0) rfl) hi64
            have hr := Lib.hid (Ty.row_down hr9)
            have hB := Lib.hid SZ.below
            clear SZ hr9
            rw [← hP.out] at hr ⊢
            generalize put1 xs x = zs at *
            (refine wpAnyH_ready (rs := [12]) (by kernel_rfl) (by simp) ?_; refine AllReadyH.cons rfl (fun K hK => ?_) AllReadyH.nil)
            go_simp
            refine hK.out _ _ trivial (fun _ => ?_)
            clear hK
            (try simp only [put_rules])
            (refine wpAnyH_done (by kernel_rfl) ?_ _)
            go_wp2_with fail
            go_ret
            exact ⟨a4, c4, F9, rfl, hr.out, hB.out⟩
        · skip
          go_simp
          have S1 := HS.out.drew.alloc_box #[.int .i64 x] 3
          (try simp only [World.size_alloc, show w.drew.heap.size = w.heap.size from rfl] at S1)
          replace S1 := Lib.hid S1
          refine hK.out _ _ trivial (fun _ => ?_)
          clear hK HS
          (try simp only [put_rules])
          (refine wpAnyH_ready (rs := [0]) (by kernel_rfl) (by simp) ?_; refine AllReadyH.cons rfl (fun K hK => ?_) AllReadyH.nil)
          go_simp
          have S2 := S1.out.own_made 3 1
          (try simp only [World.size_alloc, show w.drew.heap.size = w.heap.size from rfl] at S2)
          replace S2 := Lib.hid S2
          refine hK.out _ _ trivial (fun _ => ?_)
          clear hK S1
          (try simp only [put_rules])
          (refine wpAnyH_ready (rs := [4]) (by kernel_rfl) (by simp) ?_; refine AllReadyH.cons rfl (fun K hK => ?_) AllReadyH.nil)
          have hsrc := hto.out.grow S2.out.below
          have hown := S2.out.own (i := 0) rfl
          (refine step_append_src rfl _ _ rfl Try.underlying26 hi0 hy0 hy1 hy2 rfl (by decide) _ 0 _ rfl hown _ k cap _ rfl hsrc (ints_one _) (by unfold maxLen; omega) (by omega) ?_; intro v2 w2 hown2 hg2 hat2)
          have S3 := S2.out.own_push (i := 0) rfl (bb _) hown2 hg2 hat2
          obtain ⟨a2, c2, rfl⟩ := own_slice hown2
          rw [Nat.zero_add k] at S3 ⊢
          simp only [List.set_cons_zero, List.set_cons_succ] at S3
          refine hK.out _ _ trivial (fun _ => ?_)
          replace S3 := Lib.hid S3
          clear hK S2 hown2 hg2 hat2 hown hsrc
          (try simp only [put_rules])
          (refine wpAnyH_ready (rs := [7]) (by kernel_rfl) (by simp) ?_; refine AllReadyH.cons rfl (fun K hK => ?_) AllReadyH.nil)
          have hown := S3.out.own (i := 0) rfl
          have k9 := S3.out.cell (i := 1) rfl (o := 0) rfl
          (refine step_append_src rfl _ _ rfl Try.underlying26 hi0 hy0 hy1 hy2 rfl (by decide) _ _ _ rfl hown _ 1 1 [.int .i64 x] rfl (Src.one k9) (by simp [Value.oneCell']) (by unfold maxLen; omega) (by omega) ?_; intro v3 w3 hown3 hg3 hat3)
          have S4 := S3.out.own_push (i := 0) rfl (bb _) hown3 hg3 hat3
          obtain ⟨a3, c3, rfl⟩ := own_slice hown3
          simp only [List.set_cons_zero, List.set_cons_succ] at S4
          refine hK.out _ _ trivial (fun _ => ?_)
          replace S4 := Lib.hid (Sp.pick [0] S4 rfl)
          clear hK S3 hown3 hg3 hat3 hown k9
          (try simp only [put_rules])
          (refine wpAnyH_ready (rs := [11]) (by kernel_rfl) (by simp) ?_; refine AllReadyH.cons rfl (fun K hK => ?_) AllReadyH.nil)
          have hsrc := hfr.out.grow S4.out.below
          have hown := S4.out.own (i := 0) rfl
          (refine step_append_src rfl _ _ rfl Try.underlying26 hi0 hy0 hy1 hy2 rfl (by decide) _ _ _ rfl hown _ (xs.length - k) (cap - k) _ rfl hsrc (ints_one _) (by unfold maxLen; omega) (by omega) ?_; intro v4 w4 hown4 hg4 hat4)
          have S9 := S4.out.own_push (i := 0) rfl (bb _) hown4 hg4 hat4
          obtain ⟨a4, c4, rfl⟩ := own_slice hown4
          refine hK.out _ _ trivial (fun _ => ?_)
          clear hK S4 hown4 hg4 hat4 hown hsrc
          (try simp only [put_rules])
          have SZ : Sp w w4 [Own 3 1 (.slice a4 (xs.take k ++ x :: xs.drop k).length c4) (xs.take k ++ x :: xs.drop k).length ((xs.take k ++ x :: xs.drop k).map (.int .i64))] := by
            have e1 : (xs.take k ++ x :: xs.drop k).length = k + 1 + (xs.length - k) := by rw [List.length_append, List.length_cons, List.length_drop, List.length_take]; omega
            rw [e1]
            simpa using S9
          have hlen : k + 1 + (xs.length - k) = (xs.take k ++ x :: xs.drop k).length := by rw [List.length_append, List.length_cons, List.length_drop, List.length_take]; omega
          rw [hlen]
          clear S9 hlen
          have hi64 : ∀ y ∈ xs.take k ++ x :: xs.drop k, I64 y := fun y hy => by
            rcases List.mem_append.1 hy with hy | hy
            · exact hH.out.ok y (List.mem_of_mem_take hy)
            · rcases List.mem_cons.1 hy with rfl | hy
              · exact hx64
              · exact hH.out.ok y (List.mem_of_mem_drop hy)
          obtain ⟨F9, hr9, -, -⟩ := own_row (SZ.own (i := 0) rfl) hi64
          have hr := Lib.hid (Ty.row_down hr9)
          have hB := Lib.hid SZ.below
          clear SZ hr9
          rw [← hP.out] at hr ⊢
          generalize put1 xs x = zs at *
          (refine wpAnyH_ready (rs := [12]) (by kernel_rfl) (by simp) ?_; refine AllReadyH.cons rfl (fun K hK => ?_) AllReadyH.nil)
          go_simp
          refine hK.out _ _ trivial (fun _ => ?_)
          clear hK
          (try simp only [put_rules])
          (refine wpAnyH_done (by kernel_rfl) ?_ _)
          go_wp2_with fail
          go_ret
          exact ⟨a4, c4, F9, rfl, hr.out, hB.out⟩
end Go.Proofs.Yteabiokhbaekpaa

/- Contract: the number of different holes of some pigeons, in the reference. -/
namespace Go.Proofs.Yteabiokhbaekpaa
open Go.RowKit

/-- The different holes, in their order. -/
def holesS (L : List (List Int)) (sm : List Int) : List Int := (hallA L sm).foldl put1 []
theorem atP_le (xs : List Int) (x : Int) : atP xs x ≤ xs.length := by unfold atP; exact (List.takeWhile_sublist _).length_le
theorem put1_len (xs : List Int) (x : Int) : (put1 xs x).length ≤ xs.length + 1 := by
  unfold put1
  have := atP_le xs x
  split
  · omega
  · rw [List.length_append, List.length_cons, List.length_take, List.length_drop]; omega
theorem fold1_len : ∀ (ys xs : List Int), (ys.foldl put1 xs).length ≤ xs.length + ys.length
  | [], xs => by simp
  | y :: ys, xs => by
    have h1 := fold1_len ys (put1 xs y)
    have h2 := put1_len xs y
    rw [List.foldl_cons, List.length_cons]; omega

set_option maxRecDepth 100000 in
set_option maxHeartbeats 4000000 in
theorem l28Holes_any (A : Option Addr) (c : Nat) (L : List (List Int)) (B : Option Addr) (d : Nat) (sm : List Int) (w : World) (hx : ClsAt w A L) (hy : IntsAt w B sm) (hL : choiceB L = true) (hs : sm.length ≤ 20) (hr : ∀ i ∈ sm, 1 ≤ i ∧ i ≤ L.length) :
    Calls Try.prog 22 #[.slice A L.length c, .slice B sm.length d] w fun e w' => e = .returned (.int .i64 (holesS L sm).length) ∧ Below w.heap.size w w' := by
  have hX := Lib.hid hx
  have hY := Lib.hid hy
  have hCh := Lib.hid hL
  have h4 := (choice_parts hL).1
  clear hx hy hL
  have S0 := (Sp.start w).own_made 3 1
  obtain ⟨F0, hr0, -, -⟩ := own_row (cs := []) (S0.own (i := 0) rfl) (fun c hc => by cases hc)
  have hr1 := Lib.hid (Ty.row_down hr0)
  have hB0 := Lib.hid S0.below
  clear S0 hr0
  have hz : Hid (holesS L (sm.take 0) = []) := rfl
  go_enter Try.func22, Try.ntmps22
  go_wp2_with fail
  go_loopw [5, 6] (fun v5 v6 wr => ∃ (k : Nat) (D : Option Addr) (dc : Nat) (ys : List Int) (F : List Nat), k ≤ sm.length ∧ v6 = .int .i64 k ∧ v5 = .slice D ys.length dc ∧ Hid (ys = holesS L (sm.take k)) ∧ Hid (Ty.int.row false wr (.slice D ys.length dc) ys F) ∧ Hid (Below w.heap.size w wr)) (fun _ v6 _ => sm.length - (intOf v6).toNat)
  case atStart => exact ⟨0, _, 0, [], F0, Nat.zero_le _, rfl, rfl, hz.out.symm, hr1, hB0⟩
  case round =>
    clear hr1 hB0 hz
    obtain ⟨k, D, dc, ys, F, hk, rfl, rfl, hys, hrw, HB⟩ := hrel
    by_cases hlt : k < sm.length
    · obtain ⟨b, off, hBB, m0⟩ := (hY.out.grow HB.out).at_ k hlt
      subst hBB
      have hri := hr _ (List.getElem_mem hlt)
      have hsuc := hallA_succ (L := L) hlt
      have hyl : Hid (ys.length ≤ 3 * k) := by
        have h1 := (hallA_small hCh.out (sm := sm.take k)).1
        have h2 := fold1_len (hallA L (sm.take k)) []
        rw [List.length_take] at h1
        unfold Hid
        rw [hys.out]
        unfold holesS
        simp at h2
        omega
      generalize sm[k] = i at *
      obtain ⟨t, rfl⟩ : ∃ t : Nat, i = (t : Int) + 1 := ⟨(i - 1).toNat, by omega⟩
      have ht : t < L.length := by omega
      have e1 : ((t : Int) + 1).toNat - 1 = t := by omega
      rw [e1, List.getD_eq_getElem?_getD, List.getElem?_eq_getElem ht, Option.getD_some] at hsuc
      obtain ⟨b2, o2, E, ec, hA, m1, hI⟩ := (hX.out.grow HB.out).at_ t ht
      subst hA
      have hll := lst_len ((choice_parts hCh.out).2 _ (List.getElem_mem ht))
      have hsub : IntKind.i64.wrap ((t : Int) + 1 - 1) = (t : Int) := by rw [IntWalk.i64_in _ (by omega)]; omega
      generalize L[t] = l at *
      have hend : Hid (l.foldl put1 ys = holesS L (sm.take (k + 1))) := by unfold Hid holesS; rw [hsuc, List.foldl_append]; rw [hys.out]; rfl
      replace hI := Lib.hid hI
      have hr2 := hrw
      have hst : Hid (ys = (l.take 0).foldl put1 ys) := rfl
      clear hsuc hys
      rename World => wo
      go_wp2_with fail
      clear m0 m1
      go_loopw [5, 8] (fun v5 v8 wr => ∃ (j : Nat) (D : Option Addr) (dc : Nat) (zs : List Int) (F : List Nat), j ≤ l.length ∧ v8 = .int .i64 j ∧ v5 = .slice D zs.length dc ∧ Hid (zs = (l.take j).foldl put1 ys) ∧ Hid (Ty.int.row false wr (.slice D zs.length dc) zs F) ∧ Hid (Below wo.heap.size wo wr)) (fun _ v8 _ => l.length - (intOf v8).toNat)
      case atStart => exact ⟨0, D, dc, ys, F, Nat.zero_le _, rfl, rfl, hst, hr2, bb _⟩
      case round =>
        clear hr2 hst hrw
        obtain ⟨j, D2, dc2, zs, F2, hj, rfl, rfl, hzs, hrz, HB2⟩ := hrel
        by_cases hlt2 : j < l.length
        · obtain ⟨b3, o3, hE, m2⟩ := (hI.out.grow HB2.out).at_ j hlt2
          subst hE
          have hj64 := hI.out.ok _ (List.getElem_mem hlt2)
          have hzl : zs.length ≤ 100 := by
            have h2 := fold1_len (l.take j) ys
            rw [← hzs.out, List.length_take] at h2
            have := hyl.out
            omega
          have hput := Lib.hid (l1Put_any D2 dc2 zs l[j] F2 _ hrz.out hj64 (by omega))
          have hnx : Hid (put1 zs l[j] = (l.take (j + 1)).foldl put1 ys) := by unfold Hid; rw [List.take_succ_eq_append_getElem hlt2, List.foldl_append, ← hzs.out]; rfl
          generalize l[j] = x at *
          generalize put1 zs x = ns at *
          clear hrz hzs
          go_wp2_with fail
          refine hput.out.mono ?_
          rintro e w3 ⟨D3, dc3, F3, rfl, hr3, hb3⟩
          have hB3 := Lib.hid (btr HB2.out hb3)
          replace hr3 := Lib.hid hr3
          clear hput hb3 HB2 m2
          go_wp2_with fail
          go_roundw
          case rel => exact ⟨j + 1, D3, dc3, ns, F3, by omega, by go_num, rfl, hnx, hr3, hB3⟩
          case measure => simp [intOf]; omega
        · obtain rfl : j = l.length := by omega
          have hz2 : Hid (zs = holesS L (sm.take (k + 1))) := by have := hzs.out; rw [List.take_length] at this; exact this.trans hend.out
          have hB3 := Lib.hid (btr HB.out HB2.out)
          clear hzs
          go_wp2_with fail
          go_roundw
          case rel => exact ⟨k + 1, D2, dc2, zs, F2, by omega, by go_num, rfl, hz2, hrz, hB3⟩
          case measure => simp [intOf]; omega
    · obtain rfl : k = sm.length := by omega
      have e1 : Hid (holesS L sm = ys) := by have := hys.out; rw [List.take_length] at this; exact this.symm
      go_wp2_with fail
      go_ret
      exact ⟨by rw [e1.out]; rfl, HB.out⟩
end Go.Proofs.Yteabiokhbaekpaa

/- Contract: which list of pigeons is ahead, in the reference. -/
namespace Go.Proofs.Yteabiokhbaekpaa
open Go.RowKit

def lex27 : List Int → List Int → Bool
  | x :: a, y :: b => if x = y then lex27 a b else decide (x < y)
  | _, _ => false
def bef27 (a b : List Int) : Bool := if a.length = b.length then lex27 a b else decide (a.length < b.length)

set_option maxRecDepth 100000 in
set_option maxHeartbeats 4000000 in
theorem l27Before_any (A B : Option Addr) (c d : Nat) (a b : List Int) (w : World) (hx : IntsAt w A a) (hy : IntsAt w B b) (hl : a.length ≤ 1000) (hm : b.length ≤ 1000) :
    Calls Try.prog 23 #[.slice A a.length c, .slice B b.length d] w fun e w' => e = .returned (.bool (bef27 a b)) ∧ Below w.heap.size w w' := by
  have hX := Lib.hid hx
  have hY := Lib.hid hy
  clear hx hy
  by_cases hlen : a.length = b.length
  · have hq : Hid (bef27 a b = lex27 a b) := by unfold Hid bef27; rw [if_pos hlen]
    have hlb := Lib.hid hlen
    obtain ⟨n, hn⟩ : ∃ n, b.length = n := ⟨_, rfl⟩
    rw [hlen, hn]
    rw [hn] at hm
    have hna : Hid (a.length = n) := hlen.trans hn
    replace hn := Lib.hid hn
    clear hlen hl hlb
    go_enter Try.func23, Try.ntmps23
    go_wp2_with fail
    go_loopw [5] (fun v5 wr => ∃ k : Nat, k ≤ n ∧ v5 = .int .i64 k ∧ Hid (lex27 a b = lex27 (a.drop k) (b.drop k)) ∧ Hid (Below w.heap.size w wr)) (fun v5 _ => n - (intOf v5).toNat)
    case atStart => exact ⟨0, Nat.zero_le _, rfl, rfl, bb _⟩
    case round =>
      obtain ⟨k, hk, rfl, HR, HB⟩ := hrel
      by_cases hlt : k < n
      · have ha : k < a.length := by have := hna.out; omega
        have hb : k < b.length := by have := hn.out; omega
        obtain ⟨b1, o1, hA, m0⟩ := (hX.out.grow HB.out).at_ k ha
        obtain ⟨b2, o2, hBB, m1⟩ := (hY.out.grow HB.out).at_ k hb
        subst hA
        subst hBB
        have k0 := cell_regrown m0
        have k1 := cell_regrown m1
        have hst := HR.out
        rw [List.drop_eq_getElem_cons ha, List.drop_eq_getElem_cons hb, lex27] at hst
        have hcell : Hid (∀ W, Below w.heap.size w W → W.cell? ⟨b1, o1 + k, none⟩ = some (.int .i64 a[k]) ∧ W.cell? ⟨b2, o2 + k, none⟩ = some (.int .i64 b[k])) := fun W h => by
          obtain ⟨_, _, e1, h1⟩ := (hX.out.grow h).at_ k ha
          obtain ⟨_, _, e2, h2⟩ := (hY.out.grow h).at_ k hb
          cases e1; cases e2; exact ⟨h1, h2⟩
        generalize a[k] = x at *
        generalize b[k] = y at *
        clear HR m0 m1 ha hb
        by_cases hxy : x = y
        · rw [if_pos hxy] at hst
          subst hxy
          replace hst := Lib.hid hst
          go_wp2_with fail
          refine wp_region_quiet_below (by kernel_rfl) (by kernel_rfl) ?_
          repeat (any_goals (go_big_quiet_step (fail)))
          refine wpQuiet_nil ?_
          rintro w3 ⟨p, rfl⟩
          have hB2 := Lib.hid (btr HB.out (below_regrown _ p.d p.os))
          clear k0 k1 HB hcell
          go_wp2_with fail
          go_roundw
          case rel => exact ⟨k + 1, by omega, by go_num, hst, hB2⟩
          case measure => simp [intOf]; omega
        · rw [if_neg hxy] at hst
          have hxb : (x == y) = false := by simp [hxy]
          have hfin : Hid (bef27 a b = decide (x < y)) := hq.out.trans hst
          clear hst
          go_wp2_with fail
          refine wp_region_quiet_below (by kernel_rfl) (by kernel_rfl) ?_
          repeat (any_goals (go_big_quiet_step (fail)))
          refine wpQuiet_nil ?_
          rintro w3 ⟨p, rfl⟩
          have hB2 := Lib.hid (btr HB.out (below_regrown _ p.d p.os))
          obtain ⟨j0, j1⟩ := hcell.out _ hB2.out
          have k2 := cell_regrown j0
          have k3 := cell_regrown j1
          clear k0 k1 HB hcell
          go_wp2_with fail
          refine wp_region_quiet_below (by kernel_rfl) (by kernel_rfl) ?_
          repeat (any_goals (go_big_quiet_step (fail)))
          refine wpQuiet_nil ?_
          rintro w4 ⟨p2, rfl⟩
          have hB3 := Lib.hid (btr hB2.out (below_regrown _ p2.d p2.os))
          go_wp2_with fail
          go_ret
          exact ⟨ret_bool hfin.out.symm, hB3.out⟩
      · have hke : k = n := by omega
        have hfin : Hid (bef27 a b = false) := by
          refine hq.out.trans (HR.out.trans ?_)
          rw [List.drop_eq_nil_of_le (by have := hna.out; omega)]; rfl
        replace hke := Lib.hid hke
        clear HR
        go_wp2_with fail
        go_ret
        exact ⟨ret_bool hfin.out.symm, HB.out⟩
  · have hne : ((a.length : Int) == (b.length : Int)) = false := by rw [beq_eq_false_iff_ne]; omega
    have hfin : Hid (bef27 a b = decide (a.length < b.length)) := by unfold Hid bef27; rw [if_neg hlen]
    go_enter Try.func23, Try.ntmps23
    go_wp2_with fail
    go_ret
    exact ⟨by rw [hfin.out]; rfl, bb _⟩
end Go.Proofs.Yteabiokhbaekpaa

/- Contracts: whether lists are a choice, in the reference. -/
namespace Go.Proofs.Yteabiokhbaekpaa
open Go.RowKit

set_option maxRecDepth 100000 in
set_option maxHeartbeats 4000000 in
theorem l28Choice_any (A : Option Addr) (cap : Nat) (L : List (List Int)) (w : World) (hx : ClsAt w A L) (hl : L.length ≤ 1000) (hs : ∀ l ∈ L, l.length ≤ 1000) :
    Calls Try.prog 21 #[.slice A L.length cap] w fun e w' => e = .returned (.bool (choiceB L)) ∧ Below w.heap.size w w' := by
  have hX := Lib.hid hx
  clear hx
  have hwl := Lib.hid (fun W => l1In_any L.length 1 4 W)
  cases hin : inB L.length 1 4
  · rw [hin] at hwl
    have hno : Hid (choiceB L = false) := by unfold Hid choiceB; rw [hin]; rfl
    clear hin
    go_enter Try.func21, Try.ntmps21
    go_wp2_with fail
    refine (hwl.out _).mono ?_
    rintro e w2 ⟨rfl, rfl⟩
    go_wp2_with fail
    go_ret
    exact ⟨ret_bool hno.out.symm, bb _⟩
  rw [hin] at hwl
  replace hin := Lib.hid hin
  go_enter Try.func21, Try.ntmps21
  go_wp2_with fail
  refine (hwl.out _).mono ?_
  rintro e w2 ⟨rfl, rfl⟩
  go_wp2_with fail
  go_loopw [3] (fun v3 wr => ∃ i : Nat, i ≤ L.length ∧ v3 = .int .i64 i ∧ Hid (∀ l ∈ L.take i, lstB l = true) ∧ Hid (Below w.heap.size w wr)) (fun v3 _ => L.length - (intOf v3).toNat)
  case atStart => exact ⟨0, Nat.zero_le _, rfl, (fun l h => by simp at h), bb _⟩
  case round =>
    obtain ⟨i, hi, rfl, HR, hB⟩ := hrel
    by_cases hlt : i < L.length
    · obtain ⟨b, off, D, dc, hA, m0, hI⟩ := (hX.out.grow hB.out).at_ i hlt
      subst hA
      have hsl := hs _ (List.getElem_mem hlt)
      have hno := Lib.hid (fun h : lstB L[i] = false => choice_no hlt h)
      have hyes : Hid (lstB L[i] = true → ∀ l ∈ L.take (i + 1), lstB l = true) := fun h l hm => by
        rw [List.take_succ_eq_append_getElem hlt, List.mem_append, List.mem_singleton] at hm
        rcases hm with hm | rfl
        · exact HR.out l hm
        · exact h
      have hln := Lib.hid (lst_len (l := L[i]))
      have hri := l1RisingG_any D dc L[i] 1 3 wr hI (by omega)
      rw [show risG 1 3 L[i] = lstB L[i] from rfl] at hri
      generalize L[i] = l at *
      by_cases h3 : l.length ≤ 3
      · have h3' : ¬ 3 < l.length := by omega
        cases hq : lstB l
        · rw [hq] at hri
          have HN := Lib.hid (hno.out hq)
          replace hri := Lib.hid hri
          clear hno hyes hln HR hI hq
          go_wp2_with fail
          refine hri.out.mono ?_
          rintro e w3 ⟨rfl, hb3⟩
          have hB3 := Lib.hid (btr hB.out hb3)
          clear hri hB hb3 m0
          go_wp2_with fail
          go_ret
          exact ⟨ret_bool HN.out.symm, hB3.out⟩
        · rw [hq] at hri
          have HN := Lib.hid (hyes.out hq)
          replace hri := Lib.hid hri
          clear hno hyes hln HR hI hq
          go_wp2_with fail
          refine hri.out.mono ?_
          rintro e w3 ⟨rfl, hb3⟩
          have hB3 := Lib.hid (btr hB.out hb3)
          clear hri hB hb3 m0
          go_wp2_with fail
          go_roundw
          case rel => exact ⟨i + 1, by omega, by go_num, HN, hB3⟩
          case measure => simp [intOf]; omega
      · have h3' : 3 < l.length := by omega
        have HN : Hid (choiceB L = false) := hno.out (by cases h : lstB l with
          | false => rfl
          | true => exact absurd (hln.out h) h3)
        clear hno hyes hln HR hI hri
        go_wp2_with fail
        go_ret
        exact ⟨ret_bool HN.out.symm, hB.out⟩
    · obtain rfl : i = L.length := by omega
      have hch : Hid (choiceB L = true) := by
        unfold Hid
        rw [choice_all (by have := HR.out; rwa [List.take_length] at this)]; exact hin.out
      go_wp2_with fail
      go_ret
      exact ⟨ret_bool hch.out.symm, hB.out⟩
end Go.Proofs.Yteabiokhbaekpaa

/- Contract: the first list of pigeons with fewer holes, in the reference. -/
namespace Go.Proofs.Yteabiokhbaekpaa
open Go.RowKit

theorem bit_andH (b t : Nat) (hb : b < 2 ^ 62) : bits .and .i64 ((b : Int) / 2 ^ t) 1 = if b.testBit t then 1 else 0 := by
  have e0 : (b : Int) / 2 ^ t = ((b / 2 ^ t : Nat) : Int) := by rw [Int.natCast_ediv, Int.natCast_pow]; rfl
  rw [e0, and_one _ (Nat.lt_of_le_of_lt (Nat.div_le_self _ _) (Nat.lt_trans hb (by decide))), Nat.testBit_eq_decide_div_mod_eq]
  rcases Nat.mod_two_eq_zero_or_one (b / 2 ^ t) with h | h
  · rw [h]; simp
  · rw [h]; simp
/-- The first t pigeons of a code. -/
def someN (code t : Nat) : List Int := ((List.range t).filter fun i => code.testBit i).map fun (i : Nat) => (i : Int) + 1
theorem someN_succ (code t : Nat) : someN code (t + 1) = someN code t ++ (if code.testBit t then [(t : Int) + 1] else []) := by
  unfold someN
  rw [List.range_succ, List.filter_append, List.map_append]
  cases h : code.testBit t <;> simp [h]
theorem someN_len (code t : Nat) : (someN code t).length ≤ t := by
  unfold someN
  rw [List.length_map]
  exact Nat.le_trans (List.length_filter_le _ _) (by simp)
theorem someN_mem {code t : Nat} {i : Int} (h : i ∈ someN code t) : 1 ≤ i ∧ i ≤ t := by
  unfold someN at h
  obtain ⟨k, hk, rfl⟩ := List.mem_map.1 h
  have := List.mem_range.1 (List.mem_filter.1 hk).1
  omega
/-- What the reference keeps. -/
def keepS (L : List (List Int)) (s : List Int × Bool) (sm : List Int) : List Int × Bool := if decide ((holesS L sm).length < sm.length) && (!s.2 || bef27 sm s.1) then (sm, true) else s
theorem keepS_def (L : List (List Int)) : ∀ s sm, keepS L s sm = if decide ((holesS L sm).length < sm.length) && (!s.2 || bef27 sm s.1) then (sm, true) else s := fun _ _ => rfl
def hsTo (L : List (List Int)) (m : Nat) : List Int × Bool := (List.range m).foldl (fun s code => keepS L s (someN code L.length)) ([], false)
theorem hsTo_succ (L : List (List Int)) (m : Nat) : hsTo L (m + 1) = keepS L (hsTo L m) (someN m L.length) := by unfold hsTo; rw [List.range_succ, List.foldl_append]; rfl
def hsS (L : List (List Int)) : List Int × Bool := if choiceB L then hsTo L (2 ^ L.length) else ([], false)
theorem ints_none (w : World) (A : Option Addr) : IntsAt w A [] := ⟨fun j hj => absurd hj (by simp), fun x hx => by cases hx⟩
def HOut (s : List Int × Bool) (w : World) (e : Ending) (w' : World) : Prop := ∃ D dc, e = .returned (.tuple #[.slice D s.1.length dc, .bool s.2]) ∧ IntsAt w' D s.1 ∧ Below w.heap.size w w'
theorem hsTo_len (L : List (List Int)) : ∀ m, (hsTo L m).1.length ≤ L.length
  | 0 => by simp [hsTo]
  | m + 1 => by
    rw [hsTo_succ]
    unfold keepS
    split
    · exact someN_len _ _
    · exact hsTo_len L m

set_option maxRecDepth 100000 in
set_option maxHeartbeats 4000000 in
theorem specHallSet_any (A : Option Addr) (c : Nat) (L : List (List Int)) (w : World) (hx : ClsAt w A L) (hl : L.length ≤ 1000) (hs : ∀ l ∈ L, l.length ≤ 1000) :
    Calls Try.prog 7 #[.slice A L.length c] w (HOut (hsS L) w) := by
  obtain ⟨i0, hi0, hy0, hy1, hy2⟩ := info_parts infoInt
  have hic := Lib.hid (fun W (h : Below w.heap.size w W) => l28Choice_any A c L W (hx.grow h) hl hs)
  have hB0 := Lib.hid (bal (bb w) (.cells #[] 3))
  unfold hsS
  cases h : choiceB L with
  | false =>
    rw [h] at hic
    rw [if_neg (by simp)]
    clear h
    go_enter Try.func7, Try.ntmps7
    go_wp2_with fail
    refine (hic.out _ hB0.out).mono ?_
    rintro e w1 ⟨rfl, hb1⟩
    have hZ := Lib.hid (btr hB0.out hb1)
    clear hb1
    go_wp2_with fail
    go_ret2
    exact ⟨_, 0, rfl, ints_none _ _, hZ.out⟩
  | true =>
    rw [h] at hic
    rw [if_pos rfl]
    have hh := Lib.hid (fun (B : Option Addr) (d : Nat) (sm : List Int) (W : World) (hb : Below w.heap.size w W) (hy : IntsAt W B sm) (h1 : sm.length ≤ 20) (h2 : ∀ i ∈ sm, 1 ≤ i ∧ i ≤ L.length) => l28Holes_any A c L B d sm W (hx.grow hb) hy h h1 h2)
    have h4 := (choice_parts h).1
    have hsuc := Lib.hid (hsTo_succ L)
    have hln := Lib.hid (hsTo_len L)
    have hk := Lib.hid (keepS_def L)
    have hz : Hid (hsTo L 0 = ([], false)) := rfl
    generalize hsTo L = T at *
    generalize hKS : keepS L = KS at *
    generalize holesS L = HS at *
    generalize L.length = n at *
    clear h hx hs hl hKS
    have hN : 2 ^ n ≤ 16 := Nat.pow_le_pow_right (by decide) (show n ≤ 4 by omega)
    have hpw : (2 : Int) ^ n = ((2 ^ n : Nat) : Int) := by push_cast; rfl
    have hw2 : IntKind.i64.wrap ((2 : Int) ^ n) = ((2 ^ n : Nat) : Int) := by
      rw [hpw]
      generalize 2 ^ n = M at hN
      exact IntWalk.i64_in _ (by omega)
    have hw1 : wrap64 ((2 : Int) ^ n) = ((2 ^ n : Nat) : Int) := by
      rw [hpw]
      generalize 2 ^ n = M at hN
      unfold wrap64; omega
    replace hpw := Lib.hid hpw
    generalize hNN : 2 ^ n = N at *
    go_enter Try.func7, Try.ntmps7
    go_wp2_with fail
    refine (hic.out _ hB0.out).mono ?_
    rintro e w1 ⟨rfl, hb1⟩
    have hZ := Lib.hid (btr hB0.out hb1)
    clear hb1 hic hB0
    go_wp2_with fail
    go_loopw [4, 5, 6] (fun v4 v5 v6 wr => ∃ (m : Nat) (D : Option Addr) (dc : Nat) (best : List Int) (found : Bool), m ≤ N ∧ v6 = .int .i64 m ∧ v4 = .slice D best.length dc ∧ v5 = .bool found ∧ Hid (T m = (best, found)) ∧ Hid (IntsAt wr D best) ∧ Hid (Below w.heap.size w wr)) (fun _ _ v6 _ => N - (intOf v6).toNat)
    case atStart => exact ⟨0, _, 0, [], false, Nat.zero_le _, rfl, rfl, rfl, hz, ints_none _ _, hZ⟩
    case round =>
      clear hZ hz
      obtain ⟨m, D, dc, best, found, hm, rfl, rfl, rfl, hT, hI, HB⟩ := hrel
      by_cases hlt : m < N
      · have S2 := Lib.hid ((Sp.start wr).own_made 3 1)
        have hI0 := hI
        have hHB := HB
        clear HB
        rename World => wo
        go_wp2_with fail
        go_loopw [7, 8] (fun v7 v8 wr => ∃ (t : Nat) (E : Option Addr) (ec : Nat) (zs : List Int), t ≤ n ∧ v8 = .int .i64 t ∧ v7 = .slice E zs.length ec ∧ Hid (zs = someN m t) ∧ Hid (Sp wo wr [Own 3 1 (.slice E zs.length ec) zs.length (zs.map (.int .i64))])) (fun _ v8 _ => n - (intOf v8).toNat)
        case atStart => exact ⟨0, _, 0, [], Nat.zero_le _, rfl, rfl, rfl, S2⟩
        case round =>
          clear S2
          obtain ⟨t, E, ec, zs, ht, rfl, rfl, hzs, HSp⟩ := hrel
          by_cases hlt2 : t < n
          · have hbt := bit_andH m t (by omega)
            have hsn := someN_succ m t
            have hzl : zs.length ≤ t := by rw [hzs.out]; exact someN_len _ _
            cases hb : m.testBit t
            · rw [hb] at hbt hsn
              have hz2 : Hid (zs = someN m (t + 1)) := by unfold Hid; rw [hsn, hzs.out]; simp
              have hbt2 : bits .and .i64 ((m : Int) / 2 ^ t) 1 = 0 := by simpa using hbt
              clear hb hsn hbt hzs
              go_wp2_with fail
              go_roundw
              case rel => exact ⟨t + 1, E, ec, zs, by omega, by go_num, rfl, hz2, HSp⟩
              case measure => simp [intOf]; omega
            · rw [hb] at hbt hsn
              have hz2 : Hid (zs ++ [(t : Int) + 1] = someN m (t + 1)) := by unfold Hid; rw [hsn, hzs.out]; simp
              have hbt2 : bits .and .i64 ((m : Int) / 2 ^ t) 1 = 1 := by simpa using hbt
              clear hb hsn hbt hzs
              have S3 := HSp.out.alloc_box #[.int .i64 ((t : Int) + 1)] 3
              (try simp only [World.size_setCell] at S3)
              have kB := S3.cell (i := 0) rfl (o := 0) rfl
              replace S3 := Lib.hid S3
              clear HSp
              go_wp2_with (at_builtin; refine wpList_append_src rfl _ _ rfl Try.underlying26 hi0 hy0 hy1 hy2 rfl (by decide) _ _ _ rfl (S3.out.own (i := 1) rfl) _ 1 1 [.int .i64 ((t : Int) + 1)] rfl (Src.one kB) (by simp [Value.oneCell']) ?c3 ?c4 ?_)
              case c3 => unfold maxLen; omega
              case c4 => omega
              intro vY wY hownY hgY hatY
              have S4 := (S3.out.own_push (i := 1) rfl (bb _) hownY hgY (by simpa using hatY)).tail
              obtain ⟨aY, cY, rfl⟩ := own_slice hownY
              have S5 := Lib.hid (ownI_snoc (d := zs) (x := ((t : Int) + 1)) S4)
              clear S3 S4 kB hownY hgY hatY
              have hlen : zs.length + 1 = (zs ++ [((t : Int) + 1)]).length := by simp
              rw [hlen]
              replace hlen := Lib.hid hlen
              clear hlen
              generalize zs ++ [(t : Int) + 1] = z2 at *
              go_wp2_with fail
              go_roundw
              case rel => exact ⟨t + 1, aY, cY, z2, by omega, by go_num, rfl, hz2, S5⟩
              case measure => simp [intOf]; omega
          · obtain rfl : t = n := by omega
            have hzl : zs.length ≤ t := by rw [hzs.out]; exact someN_len _ _
            have hzm : Hid (∀ i ∈ zs, 1 ≤ i ∧ i ≤ (t : Int)) := fun i hi => someN_mem (by rw [← hzs.out]; exact hi)
            have hTs : Hid (T (m + 1) = KS (best, found) zs) := by unfold Hid; rw [hsuc.out, hT.out, hzs.out]
            rw [hk.out] at hTs
            have hBw := Lib.hid (btr hHB.out HSp.out.below)
            have hIz := Lib.hid (HSp.out.ints (i := 0) rfl (fun x hx => by have := hzm.out x hx; unfold I64; omega))
            have hIb := Lib.hid (hI0.out.grow HSp.out.below)
            have hho := Lib.hid (hh.out E ec zs _ hBw.out hIz.out (by omega) hzm.out)
            have hbl : best.length ≤ t := by have := hln.out m; rw [hT.out] at this; exact this
            generalize HS zs = hl at *
            clear hzs HSp
            dsimp only at hTs
            by_cases hq : hl.length < zs.length
            · rw [decide_eq_true hq, Bool.true_and] at hTs
              cases found
              · have hT2 : Hid (T (m + 1) = (zs, true)) := by unfold Hid; rw [hTs.out]; rfl
                clear hTs
                go_wp2_with fail
                refine hho.out.mono ?_
                rintro e w3 ⟨rfl, hb3⟩
                have hI3 := Lib.hid (hIz.out.grow hb3)
                have hB3 := Lib.hid (btr hBw.out hb3)
                clear hho hb3 hIz hIb hBw
                go_wp2_with fail
                go_roundw
                case rel => exact ⟨m + 1, E, ec, zs, true, by omega, by go_num, rfl, rfl, hT2, hI3, hB3⟩
                case measure => simp [intOf]; omega
              · have hIz3 := hIz
                have hIb3 := hIb
                have hbe := Lib.hid (fun W (h : Below wr.heap.size wr W) => l27Before_any E D ec dc zs best W (hIz.out.grow h) (hIb.out.grow h) (by omega) (by omega))
                generalize bef27 zs best = q2 at *
                go_wp2_with fail
                refine hho.out.mono ?_
                rintro e w3 ⟨rfl, hb3⟩
                go_wp2_with fail
                refine (hbe.out _ hb3).mono ?_
                rintro e w4 ⟨rfl, hb4⟩
                have hB34 := btr hb3 hb4
                have hI3 := Lib.hid (hIz.out.grow hB34)
                have hI4 := Lib.hid (hIb.out.grow hB34)
                have hB3 := Lib.hid (btr hBw.out hB34)
                clear hho hb3 hIz hIb hBw hbe hb4 hB34 hIz3 hIb3
                cases q2
                · have hT2 : Hid (T (m + 1) = (best, true)) := by unfold Hid; rw [hTs.out]; rfl
                  clear hTs
                  go_wp2_with fail
                  go_roundw
                  case rel => exact ⟨m + 1, D, dc, best, true, by omega, by go_num, rfl, rfl, hT2, hI4, hB3⟩
                  case measure => simp [intOf]; omega
                · have hT2 : Hid (T (m + 1) = (zs, true)) := by unfold Hid; rw [hTs.out]; rfl
                  clear hTs
                  go_wp2_with fail
                  go_roundw
                  case rel => exact ⟨m + 1, E, ec, zs, true, by omega, by go_num, rfl, rfl, hT2, hI3, hB3⟩
                  case measure => simp [intOf]; omega
            · rw [decide_eq_false hq, Bool.false_and] at hTs
              have hT2 : Hid (T (m + 1) = (best, found)) := by unfold Hid; rw [hTs.out]; simp
              clear hTs
              go_wp2_with fail
              refine hho.out.mono ?_
              rintro e w3 ⟨rfl, hb3⟩
              have hI3 := Lib.hid (hIb.out.grow hb3)
              have hB3 := Lib.hid (btr hBw.out hb3)
              clear hho hb3 hIz hIb hBw
              go_wp2_with fail
              go_roundw
              case rel => exact ⟨m + 1, D, dc, best, found, by omega, by go_num, rfl, rfl, hT2, hI3, hB3⟩
              case measure => simp [intOf]; omega
      · obtain rfl : m = N := by omega
        go_wp2_with fail
        go_ret2
        rw [hT.out]
        exact ⟨D, dc, rfl, hI.out, HB.out⟩
end Go.Proofs.Yteabiokhbaekpaa

/- Contract: a matching that is extended, in the program. -/
namespace Go.Proofs.Yteabiokhbaekpaa
open Go.RowKit

/-- The first matching that begins with some holes; so many pigeons are left. -/
def matchF : Nat → List (List Int) → List Int → Option (List Int)
  | 0, _, hs => some hs
  | n + 1, L, hs => (L.getD hs.length []).findSome? fun j => if hasI hs j then none else matchF n L (hs ++ [j])
/-- What is tried for a hole. -/
def matchJ (n : Nat) (L : List (List Int)) (hs : List Int) (j : Int) : Option (List Int) := if hasI hs j then none else matchF n L (hs ++ [j])
theorem matchF_succ (n : Nat) (L : List (List Int)) (hs : List Int) : matchF (n + 1) L hs = (L.getD hs.length []).findSome? (matchJ n L hs) := rfl
theorem find_some {f : Int → Option (List Int)} {l : List Int} {k : Nat} (hk : k < l.length) (h0 : (l.take k).findSome? f = none) {r : List Int} (h : f l[k] = some r) : l.findSome? f = some r := by
  rw [← List.take_append_drop k l, List.findSome?_append, h0, List.drop_eq_getElem_cons hk, List.findSome?_cons, h]; rfl
theorem find_none {f : Int → Option (List Int)} {l : List Int} {k : Nat} (hk : k < l.length) (h0 : (l.take k).findSome? f = none) (h : f l[k] = none) : (l.take (k + 1)).findSome? f = none := by
  rw [List.take_succ_eq_append_getElem hk, List.findSome?_append, h0, List.findSome?_cons, h]; rfl
/-- A list that is told or not. -/
def MOut (r : Option (List Int)) (w : World) (e : Ending) (w' : World) : Prop := ∃ D dc, e = .returned (.tuple #[.slice D (r.getD []).length dc, .bool r.isSome]) ∧ IntsAt w' D (r.getD []) ∧ Below w.heap.size w w'
theorem ints_nil (w : World) (A : Option Addr) : IntsAt w A [] := ⟨fun j hj => absurd hj (by simp), fun x hx => by cases hx⟩

set_option maxRecDepth 100000 in
set_option maxHeartbeats 4000000 in
theorem match_any (LA : Option Addr) (lc : Nat) (L : List (List Int)) (hLl : L.length ≤ 1000) (hs1 : ∀ l ∈ L, l.length ≤ 1000) : ∀ (n : Nat) (hs : List Int) (A : Option Addr) (c : Nat) (w : World), hs.length + n = L.length → ClsAt w LA L → IntsAt w A hs →
    Calls Try.prog 24 #[.slice LA L.length lc, .slice A hs.length c] w (MOut (matchF n L hs) w) := by
  intro n
  induction n with
  | zero =>
    intro hs A c w hn hx hI
    have hI' := Lib.hid hI
    have hee : ((hs.length : Int) == (L.length : Int)) = true := by simp; omega
    have hee2 : hs.length = L.length := by omega
    clear hI hx
    show Calls Try.prog 24 #[.slice LA L.length lc, .slice A hs.length c] w (MOut (some hs) w)
    go_enter Try.func24, Try.ntmps24
    go_wp2_with fail
    go_ret2
    exact ⟨A, c, rfl, hI'.out, bb _⟩
  | succ n ih =>
    intro hs A c w hn hx hI
    obtain ⟨i0, hi0, hy0, hy1, hy2⟩ := info_parts infoInt
    have hlt : hs.length < L.length := by omega
    have hne : ((hs.length : Int) == (L.length : Int)) = false := by simp; omega
    have hne2 : ¬ hs.length = L.length := by omega
    have hX := Lib.hid hx
    have hH := Lib.hid hI
    obtain ⟨b, off, D, dc, hA, m0, hl⟩ := hx.at_ hs.length hlt
    subst hA
    have hsl := hs1 _ (List.getElem_mem hlt)
    have hr : Hid (matchF (n + 1) L hs = (L[hs.length]).findSome? (matchJ n L hs)) := by unfold Hid; rw [matchF_succ, List.getD_eq_getElem?_getD, List.getElem?_eq_getElem hlt]; rfl
    have hJ : Hid (∀ j, matchJ n L hs j = if hasI hs j then none else matchF n L (hs ++ [j])) := fun j => rfl
    generalize L[hs.length] = l at *
    generalize matchF (n + 1) L hs = R at *
    have hl' := Lib.hid hl
    replace ih := Lib.hid ih
    have hhl : hs.length ≤ 1000 := by omega
    have hn' := Lib.hid hn
    clear hx hI hl hn
    go_enter Try.func24, Try.ntmps24
    go_wp2_with fail
    clear m0
    go_loopw [22] (fun v22 wr => ∃ k : Nat, k ≤ l.length ∧ v22 = .int .i64 k ∧ Hid ((l.take k).findSome? (matchJ n L hs) = none) ∧ Hid (Below w.heap.size w wr)) (fun v22 _ => l.length - (intOf v22).toNat)
    case atStart => exact ⟨0, Nat.zero_le _, rfl, rfl, bb _⟩
    case round =>
      obtain ⟨k, hk, rfl, HR, HB⟩ := hrel
      by_cases hlt2 : k < l.length
      · obtain ⟨b1, o1, hD, m1⟩ := (hl'.out.grow HB.out).at_ k hlt2
        subst hD
        have hj64 := hl'.out.ok _ (List.getElem_mem hlt2)
        have hco := containsIA_any hs A c l[k] wr (hH.out.grow HB.out) (by omega)
        have hfs := Lib.hid (fun r (h : matchJ n L hs l[k] = some r) => find_some hlt2 HR.out h)
        have hfn := Lib.hid (fun (h : matchJ n L hs l[k] = none) => find_none hlt2 HR.out h)
        have hJk := hJ.out l[k]
        generalize l[k] = j at *
        replace hJk := Lib.hid hJk
        cases hh : hasI hs j
        · rw [hh] at hco
          have hJ2 : Hid (matchJ n L hs j = matchF n L (hs ++ [j])) := by unfold Hid; rw [hJk.out, if_neg (by rw [hh]; simp)]
          replace hco := Lib.hid hco
          have hcn := Lib.hid (cloneA_any A c hs wr (hH.out.grow HB.out) (by omega))
          clear hh hJk HR
          go_wp2_with fail
          refine hco.out.mono ?_
          rintro e w2 ⟨rfl, rfl⟩
          go_wp2_with fail
          refine hcn.out.mono ?_
          rintro e w3 ⟨D3, dc3, rfl, T⟩
          have S9 := Lib.hid ((Sp.of_below HB.out).seq T)
          clear hco hcn T HB
          have S3 := S9.out.alloc_box #[.int .i64 j] 3
          (try simp only [World.size_setCell] at S3)
          have kB := S3.cell (i := 0) rfl (o := 0) rfl
          replace S3 := Lib.hid S3
          clear S9
          go_wp2_with (at_builtin; refine wpList_append_src rfl _ _ rfl Try.underlying26 hi0 hy0 hy1 hy2 rfl (by decide) _ _ _ rfl (S3.out.own (i := 1) rfl) _ 1 1 [.int .i64 j] rfl (Src.one kB) (by simp [Value.oneCell']) ?c3 ?c4 ?_)
          case c3 => unfold maxLen; omega
          case c4 => omega
          intro vY wY hownY hgY hatY
          have S4 := (S3.out.own_push (i := 1) rfl (bb _) hownY hgY (by simpa using hatY)).tail
          obtain ⟨aY, cY, rfl⟩ := own_slice hownY
          have S5 := Lib.hid (ownI_snoc (d := hs) (x := j) S4)
          clear S3 S4 kB hownY hgY hatY
          have hlen : hs.length + 1 = (hs ++ [j]).length := by simp
          rw [hlen]
          replace hlen := Lib.hid hlen
          have hI5 := S5.out.ints (i := 0) rfl (fun x hx => by
            rcases List.mem_append.1 hx with hx | hx
            · exact hH.out.ok x hx
            · rw [List.mem_singleton] at hx; subst hx; exact hj64)
          have hB5 := Lib.hid S5.out.below
          have hih := Lib.hid (ih.out (hs ++ [j]) aY cY _ (by have := hn'.out; rw [← hlen.out]; omega) (hX.out.grow hB5.out) hI5)
          clear S5 hI5 hlen
          generalize hs ++ [j] = zs at *
          cases hm : matchF n L zs with
          | some r =>
            rw [hm] at hih
            have hR : Hid (R = some r) := by unfold Hid; rw [hr.out]; exact hfs.out r (hJ2.out.trans hm)
            clear hfs hfn hm hJ2
            go_wp2_with fail
            refine hih.out.mono ?_
            rintro e w4 ⟨D4, dc4, rfl, hI4, hb4⟩
            have hB6 := Lib.hid (btr hB5.out hb4)
            replace hI4 := Lib.hid hI4
            clear hih hb4 hB5
            go_wp2_with fail
            go_ret2
            rw [hR.out]
            exact ⟨D4, dc4, rfl, hI4.out, hB6.out⟩
          | none =>
            rw [hm] at hih
            have HR2 := Lib.hid (hfn.out (hJ2.out.trans hm))
            clear hfs hfn hm hJ2
            go_wp2_with fail
            refine hih.out.mono ?_
            rintro e w4 ⟨D4, dc4, rfl, hI4, hb4⟩
            have hB6 := Lib.hid (btr hB5.out hb4)
            clear hih hb4 hB5 hI4
            go_wp2_with fail
            go_roundw
            case rel => exact ⟨k + 1, by omega, by go_num, HR2, hB6⟩
            case measure => simp [intOf]; omega
        · rw [hh] at hco
          have HR2 := Lib.hid (hfn.out (by rw [hJk.out, if_pos hh]))
          replace hco := Lib.hid hco
          clear hfs hfn hh hJk
          go_wp2_with fail
          refine hco.out.mono ?_
          rintro e w2 ⟨rfl, rfl⟩
          go_wp2_with fail
          go_roundw
          case rel => exact ⟨k + 1, by omega, by go_num, HR2, HB⟩
          case measure => simp [intOf]; omega
      · obtain rfl : k = l.length := by omega
        have hR : Hid (R = none) := by unfold Hid; rw [hr.out]; have := HR.out; rwa [List.take_length] at this
        go_wp2_with fail
        go_ret2
        rw [hR.out]
        exact ⟨none, 0, rfl, ints_nil _ _, HB.out⟩
end Go.Proofs.Yteabiokhbaekpaa

/- Contract: the first list of pigeons with fewer holes, in the program. -/
namespace Go.Proofs.Yteabiokhbaekpaa
open Go.RowKit

/-- The lists of at most m pigeons, in the program's order. -/
def csL (n m : Nat) : List (List Int) := (List.range m).flatMap fun t => capL 16 (goL (n + 1) [] (t + 1) 1)
def hsI (L : List (List Int)) : Option (List Int) := if choiceB L then (csL L.length L.length).find? (hallB L) else none
theorem csL_succ (n m : Nat) : csL n (m + 1) = csL n m ++ capL 16 (goL (n + 1) [] (m + 1) 1) := by unfold csL; rw [List.range_succ, List.flatMap_append]; simp
theorem cs_mem {n d : Nat} {c : List Int} (h : c ∈ capL 16 (goL (n + 1) [] d 1)) : c.length = d ∧ ∀ i ∈ c, 1 ≤ i ∧ i ≤ n := by
  obtain ⟨l, rfl, -, h2, h3⟩ := goL_mem (capL_mem h)
  refine ⟨by rw [ofN_len]; exact h3, fun i hi => ?_⟩
  unfold ofN at hi
  obtain ⟨k, hk, rfl⟩ := List.mem_map.1 hi
  have := h2 k hk
  omega
theorem find_app {α : Type} {f : α → Bool} {a b : List α} (h : a.find? f = none) : (a ++ b).find? f = b.find? f := by rw [List.find?_append, h]; rfl
theorem find_take {α : Type} {f : α → Bool} {l : List α} {k : Nat} (hk : k < l.length) (h0 : (l.take k).find? f = none) : (f l[k] = true → l.find? f = some l[k]) ∧ (f l[k] = false → (l.take (k + 1)).find? f = none) := by
  constructor
  · intro h
    have e : l.find? f = (l.take k ++ l.drop k).find? f := by rw [List.take_append_drop]
    rw [e, find_app h0, List.drop_eq_getElem_cons hk, List.find?_cons, h]
  · intro h
    rw [List.take_succ_eq_append_getElem hk, find_app h0, List.find?_cons, h]; rfl
theorem find_pre {α : Type} {f : α → Bool} {a b : List α} {r : α} (h : a.find? f = some r) : (a ++ b).find? f = some r := by rw [List.find?_append, h]; rfl
theorem cs_more (n : Nat) {m k : Nat} (h : m ≤ k) : ∃ r, csL n k = csL n m ++ r := by
  obtain ⟨d, rfl⟩ : ∃ d, k = m + d := ⟨k - m, by omega⟩
  clear h
  induction d with
  | zero => exact ⟨[], by simp⟩
  | succ d ih =>
    obtain ⟨r, hr⟩ := ih
    exact ⟨r ++ capL 16 (goL (n + 1) [] (m + d + 1) 1), by rw [← Nat.add_assoc, csL_succ, hr, List.append_assoc]⟩

/-- A list that is told or not, as a row. -/
def MOutR (r : Option (List Int)) (w : World) (e : Ending) (w' : World) : Prop := ∃ D dc F, e = .returned (.tuple #[.slice D (r.getD []).length dc, .bool r.isSome]) ∧ Ty.int.row false w' (.slice D (r.getD []).length dc) (r.getD []) F ∧ Below w.heap.size w w'
theorem rows_elem {wr : Bool} {w : World} {b o n c t dc : Nat} {cs : List (List Int)} {F : List Nat} {D : Option Addr} (h : (Ty.slice Ty.int).row wr w (.slice (some ⟨b, o, none⟩) n c) cs F) (ht : t < cs.length) (hc : w.cell? ⟨b, o + t, none⟩ = some (.slice D cs[t].length dc)) :
    ∃ Fk, Ty.int.row wr w (.slice D cs[t].length dc) cs[t] Fk := by
  obtain ⟨a, cap, e1, -, -, h3⟩ := row_slices h
  simp only [Value.slice.injEq] at e1
  obtain ⟨rfl, -, -⟩ := e1
  rcases h3 with ⟨rfl, -⟩ | ⟨-, b', o', e2, -, hxc⟩
  · exact absurd ht (by simp)
  · simp only [Option.some.injEq, Addr.mk.injEq] at e2
    obtain ⟨rfl, rfl, -⟩ := e2
    obtain ⟨u, Fk, hcell, hr, -⟩ := hxc t ht
    have e3 := hcell.1.symm.trans hc
    cases e3
    exact ⟨Fk, hr⟩

set_option maxRecDepth 100000 in
set_option maxHeartbeats 4000000 in
theorem implHallSet_any (A : Option Addr) (c : Nat) (L : List (List Int)) (w : World) (hx : ClsAt w A L) (hl : L.length ≤ 1000) (hs : ∀ l ∈ L, l.length ≤ 1000) :
    Calls Try.prog 6 #[.slice A L.length c] w (MOutR (hsI L) w) := by
  have hic := Lib.hid (implIsChoice_any A c L w hx hl hs)
  unfold hsI
  cases h : choiceB L with
  | false =>
    rw [h] at hic
    rw [if_neg (by simp)]
    clear h
    go_enter Try.func6, Try.ntmps6
    go_wp2_with fail
    refine hic.out.mono ?_
    rintro e w1 ⟨rfl, rfl⟩
    go_wp2_with fail
    go_ret2
    exact ⟨none, 0, [], rfl, Ty.row_nil _ _ _ _ _ (by decide), bb _⟩
  | true =>
    rw [h] at hic
    rw [if_pos rfl]
    have hh := Lib.hid (fun (B : Option Addr) (d : Nat) (sm : List Int) (W : World) (hb : Below w.heap.size w W) (hy : IntsAt W B sm) (h1 : sm.length ≤ 20) (h2 : ∀ i ∈ sm, 1 ≤ i ∧ i ≤ L.length) => isHall_any A c L B d sm W (hx.grow hb) hy h h1 h2)
    have h4 := (choice_parts h).1
    have hch := Lib.hid (fun (d : Nat) (hd : d ≤ 1000) W => choicesC_any L.length d 16 (by omega) hd (by decide) W)
    generalize hf : hallB L = f at *
    have hcm := Lib.hid (fun d (c : List Int) (hc : c ∈ capL 16 (goL (L.length + 1) [] d 1)) => cs_mem hc)
    generalize L.length = n at *
    have hsuc := Lib.hid (csL_succ n)
    have hmo := Lib.hid (fun m (h : m ≤ n) => cs_more n h)
    generalize hR : (csL n n).find? f = R at *
    replace hR := Lib.hid hR
    clear h hx hs hf
    go_enter Try.func6, Try.ntmps6
    go_wp2_with fail
    refine hic.out.mono ?_
    rintro e w1 ⟨rfl, rfl⟩
    clear hic
    go_wp2_with fail
    go_loopw [4] (fun v4 wr => ∃ m : Nat, m ≤ n ∧ v4 = .int .i64 ((m : Int) + 1) ∧ Hid ((csL n m).find? f = none) ∧ Hid (Below w.heap.size w wr)) (fun v4 _ => n + 1 - (intOf v4).toNat)
    case atStart => exact ⟨0, Nat.zero_le _, rfl, rfl, bb _⟩
    case round =>
      obtain ⟨m, hm, rfl, HM, HB⟩ := hrel
      by_cases hlt : m < n
      · have hle : (m : Int) + 1 ≤ n := by omega
        have hco := hch.out (m + 1) (by omega) wr
        rw [show ((m + 1 : Nat) : Int) = (m : Int) + 1 from rfl] at hco
        have hsm := hsuc.out m
        have hcc := Lib.hid (hcm.out (m + 1))
        have hmo2 := hmo.out (m + 1) (by omega)
        have hcl : (capL 16 (goL (n + 1) [] (m + 1) 1)).length ≤ 17 := capL_len _
        generalize capL 16 (goL (n + 1) [] (m + 1) 1) = cs at *
        have hfs : Hid (∀ r, cs.find? f = some r → R = some r) := fun r hr => by
          obtain ⟨z, hz⟩ := hmo2
          rw [← hR.out, hz]
          exact find_pre (by rw [hsm, find_app HM.out]; exact hr)
        have hfn : Hid (cs.find? f = none → (csL n (m + 1)).find? f = none) := fun hr => by rw [hsm, find_app HM.out]; exact hr
        have hc3 := Lib.hid hco
        clear hsm hmo2 hco HM
        rename World => wo
        go_wp2_with fail
        refine hc3.out.mono ?_
        rintro e w2 ⟨B2, c2, cv, rfl, T⟩
        obtain ⟨F2, hr2, -, -⟩ := T.rows_done (i := 0) rfl
        obtain ⟨_, _, e2, hC2⟩ := cls_row hr2
        cases e2
        have hB2 := Lib.hid (btr HB.out T.below)
        have hC := Lib.hid hC2
        have hRw := Lib.hid (fun W (h : Below w2.heap.size w2 W) => Ty.row_below (Ty.row_down hr2) h (Ty.row_lt (Ty.row_down hr2)))
        clear hc3 T hr2 hC2 HB
        go_wp2_with fail
        go_loopw [21] (fun v21 wr => ∃ t : Nat, t ≤ cs.length ∧ v21 = .int .i64 t ∧ Hid ((cs.take t).find? f = none) ∧ Hid (Below w2.heap.size w2 wr)) (fun v21 _ => cs.length - (intOf v21).toNat)
        case atStart => exact ⟨0, Nat.zero_le _, rfl, rfl, bb _⟩
        case round =>
          obtain ⟨t, ht, rfl, HT, HB2⟩ := hrel
          by_cases hlt2 : t < cs.length
          · obtain ⟨b1, o1, D, dc, hD, m1, hI⟩ := (hC.out.grow HB2.out).at_ t hlt2
            subst hD
            obtain ⟨Fk, hrk⟩ := rows_elem (hRw.out _ HB2.out) hlt2 m1
            obtain ⟨hz1, hz2⟩ := hcc.out _ (List.getElem_mem hlt2)
            obtain ⟨f1, f2⟩ := find_take hlt2 HT.out
            have hHB := btr hB2.out HB2.out
            have hih := hh.out D dc cs[t] _ hHB hI (by omega) hz2
            generalize cs[t] = sm at *
            replace hz1 := Lib.hid hz1
            replace hz2 := Lib.hid hz2
            cases hq : f sm
            · rw [hq] at hih
              have HT2 := Lib.hid (f2 hq)
              replace hih := Lib.hid hih
              clear f1 f2 hq hI hHB hrk
              go_wp2_with fail
              refine hih.out.mono ?_
              rintro e w3 ⟨rfl, hb3⟩
              have hB3 := Lib.hid (btr HB2.out hb3)
              clear hih hb3 HB2
              go_wp2_with fail
              go_roundw
              case rel => exact ⟨t + 1, by omega, by go_num, HT2, hB3⟩
              case measure => simp [intOf]; omega
            · rw [hq] at hih
              have hRs := Lib.hid (hfs.out sm (f1 hq))
              replace hih := Lib.hid hih
              have hI2 := Lib.hid hrk
              replace hHB := Lib.hid hHB
              clear f1 f2 hq hI hrk
              go_wp2_with fail
              refine hih.out.mono ?_
              rintro e w3 ⟨rfl, hb3⟩
              have hI3 := Lib.hid (Ty.row_below hI2.out hb3 (Ty.row_lt hI2.out))
              have hB3 := Lib.hid (btr hHB.out hb3)
              clear hih hb3 HB2 hI2 hHB
              go_wp2_with fail
              go_ret2
              rw [hRs.out]
              exact ⟨D, dc, Fk, rfl, hI3.out, hB3.out⟩
          · obtain rfl : t = cs.length := by omega
            have HM2 := Lib.hid (hfn.out (by have := HT.out; rwa [List.take_length] at this))
            have hB3 := Lib.hid (btr hB2.out HB2.out)
            go_wp2_with fail
            go_roundw
            case rel => exact ⟨m + 1, by omega, by go_num, HM2, hB3⟩
            case measure => simp [intOf]; omega
      · obtain rfl : m = n := by omega
        have hgt : ¬ (m : Int) + 1 ≤ m := by omega
        have hRn : Hid (R = none) := hR.out.symm.trans HM.out
        go_wp2_with fail
        go_ret2
        rw [hRn.out]
        exact ⟨none, 0, [], rfl, Ty.row_nil _ _ _ _ _ (by decide), HB.out⟩
end Go.Proofs.Yteabiokhbaekpaa

/- Contract: the first matching, in the program. -/
namespace Go.Proofs.Yteabiokhbaekpaa
open Go.RowKit

/-- The first matching of a choice. -/
def fmR (L : List (List Int)) : Option (List Int) := if choiceB L then matchF L.length L [] else none
set_option maxRecDepth 100000 in
set_option maxHeartbeats 4000000 in
theorem implFirst_any (A : Option Addr) (c : Nat) (L : List (List Int)) (w : World) (hx : ClsAt w A L) (hl : L.length ≤ 1000) (hs : ∀ l ∈ L, l.length ≤ 1000) :
    Calls Try.prog 9 #[.slice A L.length c] w (MOut (fmR L) w) := by
  have hic := Lib.hid (implIsChoice_any A c L w hx hl hs)
  have hm := Lib.hid (match_any A c L hl hs L.length [] none 0 w (by simp) hx (ints_nil _ _))
  unfold fmR
  cases h : choiceB L with
  | false =>
    rw [h] at hic
    rw [if_neg (by simp)]
    clear h
    go_enter Try.func9, Try.ntmps9
    go_wp2_with fail
    refine hic.out.mono ?_
    rintro e w1 ⟨rfl, rfl⟩
    go_wp2_with fail
    go_ret2
    exact ⟨none, 0, rfl, ints_nil _ _, bb _⟩
  | true =>
    rw [h] at hic
    rw [if_pos rfl]
    generalize matchF L.length L [] = R at *
    clear h
    go_enter Try.func9, Try.ntmps9
    go_wp2_with fail
    refine hic.out.mono ?_
    rintro e w1 ⟨rfl, rfl⟩
    go_wp2_with fail
    refine hm.out.mono ?_
    rintro e w2 ⟨D, dc, rfl, hI, hb⟩
    replace hI := Lib.hid hI
    go_wp2_with fail
    go_ret2
    exact ⟨D, dc, rfl, hI.out, hb⟩
end Go.Proofs.Yteabiokhbaekpaa
