/- Lemmas and contracts for a law, put together out of several texts: PgP CoK CoN CoO CoH CoJ CoL CtA CtB CurR SdJ SdK SdL MdQ AsA. -/
import Derived.Test.YtnfjgebfmnpkbaaGreatMg4
import Derived.Test.YtnfjgebfmnpkbaaGreatMg3
import Derived.Laws.Append
import Derived.Deep.DeepCutAuto
import Derived.Laws.EntriesVeiled
import Derived.Test.YtnfjgebfmnpkbaaGreatMg2
import Derived.Shelf.Spec.SlicesGrow
/- Contract: a number put into its place, in the reference; what comes is the old row or a row of its own. Turned from HlI. -/
namespace Go.Proofs.YtnfjgebfmnpkbaaGreat
open Go.RowKit

/-- The place of a number; the numbers with it. -/
def atP (xs : List Int) (x : Int) : Nat := (xs.takeWhile fun y => decide (y < x)).length
def put1 (xs : List Int) (x : Int) : List Int := if xs[atP xs x]? = some x then xs else xs.take (atP xs x) ++ x :: xs.drop (atP xs x)
theorem atP_end {xs : List Int} {x : Int} {k : Nat} (h : (xs.take k).all (fun y => decide (y < x)) = true) (hk : k ≤ xs.length) (he : k = xs.length ∨ ∃ h : k < xs.length, ¬ xs[k] < x) : atP xs x = k := by
  unfold atP
  have h1 : xs.takeWhile (fun y => decide (y < x)) = xs.take k := by
    conv => lhs; rw [← List.take_append_drop k xs]
    rw [List.takeWhile_append_of_pos (by simpa [List.all_eq_true] using h)]
    rcases he with rfl | ⟨hlt, hn⟩
    · rw [List.drop_length]; simp
    · rw [List.drop_eq_getElem_cons hlt, List.takeWhile_cons, if_neg (by simpa using hn), List.append_nil]
  rw [h1, List.length_take]; omega
theorem to_src {w : World} {A : Option Addr} {xs : List Int} {k : Nat} (h : IntsAt w A xs) (hk : k ≤ xs.length) : Src w A k 1 ((xs.take k).map (.int .i64)) := by
  have := Src.to (ints_src h rfl) hk
  rwa [Nat.mul_one, ← List.map_take] at this
/-- The row as it was, or a row of its own. -/
def PutP (w : World) (A : Option Addr) (cap : Nat) (xs zs : List Int) (e : Ending) (w' : World) : Prop := (e = .returned (.slice A xs.length cap) ∧ zs = xs ∧ Below w.heap.size w w') ∨ OneI w zs e w'
theorem put1_le (xs : List Int) (x : Int) : (put1 xs x).length ≤ xs.length + 1 := by
  have h : atP xs x ≤ xs.length := by unfold atP; exact (List.takeWhile_sublist _).length_le
  unfold put1
  split
  · omega
  · rw [List.length_append, List.length_cons, List.length_take, List.length_drop]; omega
theorem put1_mem {xs : List Int} {x y : Int} (h : y ∈ put1 xs x) : y = x ∨ y ∈ xs := by
  unfold put1 at h
  split at h
  · exact .inr h
  · rcases List.mem_append.1 h with h | h
    · exact .inr (List.mem_of_mem_take h)
    · rcases List.mem_cons.1 h with h | h
      · exact .inl h
      · exact .inr (List.mem_of_mem_drop h)

set_option maxRecDepth 100000 in
set_option maxHeartbeats 8000000 in
theorem l1PutO_any (A : Option Addr) (cap : Nat) (xs : List Int) (x : Int) (F : List Nat) (w : World) (hx : Ty.int.row false w (.slice A xs.length cap) xs F) (hx64 : I64 x) (hl : xs.length ≤ 1000) :
    Calls Tryz.prog 55 #[.slice A xs.length cap, .int .i64 x] w (PutP w A cap xs (put1 xs x)) := by
  obtain ⟨i0, hi0, hy0, hy1, hy2⟩ := info_parts infoInt
  obtain ⟨_, _, e1, hI⟩ := ints_row hx
  cases e1
  obtain ⟨_, _, e2, hcp, -, -, -⟩ := row_int hx
  cases e2
  have hH := Lib.hid hI
  have hX := Lib.hid hx
  clear hI hx
  go_enter Tryz.func55, Tryz.ntmps55
  go_wp2_with fail
  go_loop [5] (fun i => ∃ k : Nat, k ≤ xs.length ∧ i = .int .i64 k ∧ Hid ((xs.take k).all (fun y => decide (y < x)) = true)) (fun i => xs.length - (intOf i).toNat)
  case atStart => exact ⟨0, Nat.zero_le _, rfl, by simp [Hid]⟩
  case round =>
    obtain ⟨k, hk, rfl, HR⟩ := hrel
    by_cases hgo : ∃ h : k < xs.length, xs[k] < x
    · obtain ⟨hlt, hgo⟩ := hgo
      obtain ⟨b1, o1, hA, k0⟩ := hH.out.at_ k hlt
      subst hA
      have HN : Hid ((xs.take (k + 1)).all (fun y => decide (y < x)) = true) := by
        unfold Hid
        rw [List.take_succ_eq_append_getElem hlt, List.all_append, HR.out]
        simp [hgo]
      have hd : decide (xs[k] < x) = true := decide_eq_true hgo
      generalize xs[k] = y at *
      clear HR
      go_wp2_with fail
      go_round
      case rel => exact ⟨k + 1, by omega, by go_num, HN⟩
      case measure => simp [intOf]; omega
    · have hat : Hid (atP xs x = k) := by
        refine atP_end HR.out hk ?_
        by_cases h : k < xs.length
        · exact .inr ⟨h, fun h2 => hgo ⟨h, h2⟩⟩
        · exact .inl (by omega)
      by_cases hlt : k < xs.length
      · obtain ⟨b1, o1, hA, k0⟩ := hH.out.at_ k hlt
        subst hA
        have hd : decide (xs[k] < x) = false := decide_eq_false (fun h2 => hgo ⟨hlt, h2⟩)
        have hnlt : ¬ xs[k] < x := fun h2 => hgo ⟨hlt, h2⟩
        by_cases hq : xs[k] = x
        · have hP : Hid (put1 xs x = xs) := by unfold Hid put1; rw [hat.out, if_pos (by rw [List.getElem?_eq_getElem hlt, hq])]
          have hqb : (xs[k] == x) = true := by simp [hq]
          generalize xs[k] = y at *
          clear HR hgo hat
          go_wp2_with fail
          go_ret
          exact .inl ⟨rfl, hP.out, bb _⟩
        have hP : Hid (put1 xs x = xs.take k ++ x :: xs.drop k) := by unfold Hid put1; rw [hat.out, if_neg (by rw [List.getElem?_eq_getElem hlt]; simpa using hq)]
        have hqb : (xs[k] == x) = false := by simp [hq]
        generalize xs[k] = y at *
        clear HR hgo hat
        have hto := Lib.hid (to_src hH.out hk)
        have hfr := Lib.hid (row_int_from (k := k) hX.out hk)
        have HS := Lib.hid (Sp.start w)
        go_wp2_with fail
        refine wp_region_held_lit (S := (fun _ => True)) 13 [false, false, false, false, false, false, false, false, false, false, false, false, false] (by kernel_rfl) (by kernel_rfl) (by kernel_rfl) ?_ ?_
        · trivial
        intro hS0
        (refine wpAnyH_take (i := 1) (v := ?_) rfl (by kernel_rfl) (by kernel_rfl) (by kernel_rfl) (fun _ _ _ h => h) (Or.inl ⟨by rfl, ?_⟩) (by assumption) ?_; rotate_left; (focus (intro w hSw; (try dsimp only at hSw); go_simp; (try with_reducible rfl); done)); (try simp only [put_rules]))
        (refine wpAnyH_take (i := 2) (v := ?_) rfl (by kernel_rfl) (by kernel_rfl) (by kernel_rfl) (fun _ _ _ h => h) (Or.inl ⟨by rfl, ?_⟩) (by assumption) ?_; rotate_left; (focus (intro w hSw; (try dsimp only at hSw); go_simp; (try with_reducible rfl); done)); (try simp only [put_rules]))
        (refine wpAnyH_take (i := 3) (v := .slice _ k cap) rfl (by kernel_rfl) (by kernel_rfl) (by kernel_rfl) (fun _ _ _ h => h) (Or.inl ⟨by rfl, fun _ _ => exec_slice_to rfl rfl rfl Tryz.underlying33 hi0 (by omega)⟩) (by assumption) ?_; (try simp only [put_rules]))
        (refine wpAnyH_take (i := 5) (v := ?_) rfl (by kernel_rfl) (by kernel_rfl) (by kernel_rfl) (fun _ _ _ h => h) (Or.inl ⟨by rfl, ?_⟩) (by assumption) ?_; rotate_left; (focus (intro w hSw; (try dsimp only at hSw); go_simp; (try with_reducible rfl); done)); (try simp only [put_rules]))
        (refine wpAnyH_take (i := 8) (v := ?_) rfl (by kernel_rfl) (by kernel_rfl) (by kernel_rfl) (fun _ _ _ h => h) (Or.inl ⟨by rfl, ?_⟩) (by assumption) ?_; rotate_left; (focus (intro w hSw; (try dsimp only at hSw); go_simp; (try with_reducible rfl); done)); (try simp only [put_rules]))
        (refine wpAnyH_take (i := 9) (v := ?_) rfl (by kernel_rfl) (by kernel_rfl) (by kernel_rfl) (fun _ _ _ h => h) (Or.inl ⟨by rfl, ?_⟩) (by assumption) ?_; rotate_left; (focus (intro w hSw; (try dsimp only at hSw); go_simp; (try with_reducible rfl); done)); (try simp only [put_rules]))
        (refine wpAnyH_take (i := 10) (v := .slice (cutA _ cap k 1) (xs.length - k) (cap - k)) rfl (by kernel_rfl) (by kernel_rfl) (by kernel_rfl) (fun _ _ _ h => h) (Or.inl ⟨by rfl, fun _ _ => exec_slice_from rfl rfl rfl Tryz.underlying33 hi0 hy1 (by omega)⟩) (by assumption) ?_; (try simp only [put_rules]))
        (refine wpAnyH_ready (rs := [0, 6]) (by kernel_rfl) (by simp) ?_; refine AllReadyH.cons rfl (fun K hK => ?_) (AllReadyH.cons rfl (fun K hK => ?_) AllReadyH.nil))
        · skip
          go_simp
          have S1 := HS.out.drew.own_made 3 1
          (try simp only [World.size_alloc, show w.drew.heap.size = w.heap.size from rfl] at S1)
          replace S1 := Lib.hid S1
          refine hK.out _ _ trivial (fun _ => ?_)
          clear hK HS
          (try simp only [put_rules])
          (refine wpAnyH_ready (rs := [4, 6]) (by kernel_rfl) (by simp) ?_; refine AllReadyH.cons rfl (fun K hK => ?_) (AllReadyH.cons rfl (fun K hK => ?_) AllReadyH.nil))
          · skip
            have hsrc := hto.out.grow S1.out.below
            have hown := S1.out.own (i := 0) rfl
            (refine step_append_src rfl _ _ rfl Tryz.underlying33 hi0 hy0 hy1 hy2 rfl (by decide) _ 0 _ rfl hown _ k cap _ rfl hsrc (ints_one _) (by unfold maxLen; omega) (by omega) ?_; intro v2 w2 hown2 hg2 hat2)
            have S2 := S1.out.own_push (i := 0) rfl (bb _) hown2 hg2 hat2
            obtain ⟨a2, c2, rfl⟩ := own_slice hown2
            rw [Nat.zero_add k] at S2 ⊢
            simp only [List.set_cons_zero, List.set_cons_succ] at S2
            refine hK.out _ _ trivial (fun _ => ?_)
            replace S2 := Lib.hid S2
            clear hK S1 hown2 hg2 hat2 hown hsrc
            (try simp only [put_rules])
            (refine wpAnyH_ready (rs := [6]) (by kernel_rfl) (by simp) ?_; refine AllReadyH.cons rfl (fun K hK => ?_) AllReadyH.nil)
            go_simp
            have S3 := S2.out.alloc_box #[.int .i64 x] 3
            (try simp only [World.size_alloc, show w.drew.heap.size = w.heap.size from rfl] at S3)
            replace S3 := Lib.hid S3
            refine hK.out _ _ trivial (fun _ => ?_)
            clear hK S2
            (try simp only [put_rules])
            (refine wpAnyH_ready (rs := [7]) (by kernel_rfl) (by simp) ?_; refine AllReadyH.cons rfl (fun K hK => ?_) AllReadyH.nil)
            have hown := S3.out.own (i := 1) rfl
            have k9 := S3.out.cell (i := 0) rfl (o := 0) rfl
            (refine step_append_src rfl _ _ rfl Tryz.underlying33 hi0 hy0 hy1 hy2 rfl (by decide) _ _ _ rfl hown _ 1 1 [.int .i64 x] rfl (Src.one k9) (by simp [Value.oneCell']) (by unfold maxLen; omega) (by omega) ?_; intro v3 w3 hown3 hg3 hat3)
            have S4 := S3.out.own_push (i := 1) rfl (bb _) hown3 hg3 hat3
            obtain ⟨a3, c3, rfl⟩ := own_slice hown3
            simp only [List.set_cons_zero, List.set_cons_succ] at S4
            refine hK.out _ _ trivial (fun _ => ?_)
            replace S4 := Lib.hid (Sp.pick [1] S4 rfl)
            clear hK S3 hown3 hg3 hat3 hown k9
            (try simp only [put_rules])
            (refine wpAnyH_ready (rs := [11]) (by kernel_rfl) (by simp) ?_; refine AllReadyH.cons rfl (fun K hK => ?_) AllReadyH.nil)
            have hsrc := hfr.out.grow S4.out.below
            have hown := S4.out.own (i := 0) rfl
            (refine step_append_src rfl _ _ rfl Tryz.underlying33 hi0 hy0 hy1 hy2 rfl (by decide) _ _ _ rfl hown _ (xs.length - k) (cap - k) _ rfl hsrc (ints_one _) (by unfold maxLen; omega) (by omega) ?_; intro v4 w4 hown4 hg4 hat4)
            have S9 := S4.out.own_push (i := 0) rfl (bb _) hown4 hg4 hat4
            obtain ⟨a4, c4, rfl⟩ := own_slice hown4
            refine hK.out _ _ trivial (fun _ => ?_)
            clear hK S4 hown4 hg4 hat4 hown hsrc
            (try simp only [put_rules])
            have SZ : Sp w w4 [Own 3 1 (.slice a4 (xs.take k ++ x :: xs.drop k).length c4) (xs.take k ++ x :: xs.drop k).length ((xs.take k ++ x :: xs.drop k).map (.int .i64))] := by
              have e1 : (xs.take k ++ x :: xs.drop k).length = k + 1 + (xs.length - k) := by rw [List.length_append, List.length_cons, List.length_drop, List.length_take]; omega
              rw [e1]
              simpa using S9
            have hlen : k + 1 + (xs.length - k) = (xs.take k ++ x :: xs.drop k).length := by rw [List.length_append, List.length_cons, List.length_drop, List.length_take]; omega
            rw [hlen]
            clear S9 hlen
            have hi64 : ∀ y ∈ xs.take k ++ x :: xs.drop k, I64 y := fun y hy => by
              rcases List.mem_append.1 hy with hy | hy
              · exact hH.out.ok y (List.mem_of_mem_take hy)
              · rcases List.mem_cons.1 hy with rfl | hy
                · exact hx64
                · exact hH.out.ok y (List.mem_of_mem_drop hy)
            clear hi64
            rw [← hP.out] at SZ ⊢
            replace SZ := Lib.hid SZ
            generalize put1 xs x = zs at *
            (refine wpAnyH_ready (rs := [12]) (by kernel_rfl) (by simp) ?_; refine AllReadyH.cons rfl (fun K hK => ?_) AllReadyH.nil)
            go_simp
            refine hK.out _ _ trivial (fun _ => ?_)
            clear hK
            (try simp only [put_rules])
            (refine wpAnyH_done (by kernel_rfl) ?_ _)
            go_wp2_with fail
            go_ret
            exact .inr ⟨a4, c4, rfl, SZ.out⟩
          · skip
            go_simp
            have S2 := S1.out.alloc_box #[.int .i64 x] 3
            (try simp only [World.size_alloc, show w.drew.heap.size = w.heap.size from rfl] at S2)
            replace S2 := Lib.hid S2
            refine hK.out _ _ trivial (fun _ => ?_)
            clear hK S1
            (try simp only [put_rules])
            (refine wpAnyH_ready (rs := [4]) (by kernel_rfl) (by simp) ?_; refine AllReadyH.cons rfl (fun K hK => ?_) AllReadyH.nil)
            have hsrc := hto.out.grow S2.out.below
            have hown := S2.out.own (i := 1) rfl
            (refine step_append_src rfl _ _ rfl Tryz.underlying33 hi0 hy0 hy1 hy2 rfl (by decide) _ 0 _ rfl hown _ k cap _ rfl hsrc (ints_one _) (by unfold maxLen; omega) (by omega) ?_; intro v2 w2 hown2 hg2 hat2)
            have S3 := S2.out.own_push (i := 1) rfl (bb _) hown2 hg2 hat2
            obtain ⟨a2, c2, rfl⟩ := own_slice hown2
            rw [Nat.zero_add k] at S3 ⊢
            simp only [List.set_cons_zero, List.set_cons_succ] at S3
            refine hK.out _ _ trivial (fun _ => ?_)
            replace S3 := Lib.hid S3
            clear hK S2 hown2 hg2 hat2 hown hsrc
            (try simp only [put_rules])
            (refine wpAnyH_ready (rs := [7]) (by kernel_rfl) (by simp) ?_; refine AllReadyH.cons rfl (fun K hK => ?_) AllReadyH.nil)
            have hown := S3.out.own (i := 1) rfl
            have k9 := S3.out.cell (i := 0) rfl (o := 0) rfl
            (refine step_append_src rfl _ _ rfl Tryz.underlying33 hi0 hy0 hy1 hy2 rfl (by decide) _ _ _ rfl hown _ 1 1 [.int .i64 x] rfl (Src.one k9) (by simp [Value.oneCell']) (by unfold maxLen; omega) (by omega) ?_; intro v3 w3 hown3 hg3 hat3)
            have S4 := S3.out.own_push (i := 1) rfl (bb _) hown3 hg3 hat3
            obtain ⟨a3, c3, rfl⟩ := own_slice hown3
            simp only [List.set_cons_zero, List.set_cons_succ] at S4
            refine hK.out _ _ trivial (fun _ => ?_)
            replace S4 := Lib.hid (Sp.pick [1] S4 rfl)
            clear hK S3 hown3 hg3 hat3 hown k9
            (try simp only [put_rules])
            (refine wpAnyH_ready (rs := [11]) (by kernel_rfl) (by simp) ?_; refine AllReadyH.cons rfl (fun K hK => ?_) AllReadyH.nil)
            have hsrc := hfr.out.grow S4.out.below
            have hown := S4.out.own (i := 0) rfl
            (refine step_append_src rfl _ _ rfl Tryz.underlying33 hi0 hy0 hy1 hy2 rfl (by decide) _ _ _ rfl hown _ (xs.length - k) (cap - k) _ rfl hsrc (ints_one _) (by unfold maxLen; omega) (by omega) ?_; intro v4 w4 hown4 hg4 hat4)
            have S9 := S4.out.own_push (i := 0) rfl (bb _) hown4 hg4 hat4
            obtain ⟨a4, c4, rfl⟩ := own_slice hown4
            refine hK.out _ _ trivial (fun _ => ?_)
            clear hK S4 hown4 hg4 hat4 hown hsrc
            (try simp only [put_rules])
            have SZ : Sp w w4 [Own 3 1 (.slice a4 (xs.take k ++ x :: xs.drop k).length c4) (xs.take k ++ x :: xs.drop k).length ((xs.take k ++ x :: xs.drop k).map (.int .i64))] := by
              have e1 : (xs.take k ++ x :: xs.drop k).length = k + 1 + (xs.length - k) := by rw [List.length_append, List.length_cons, List.length_drop, List.length_take]; omega
              rw [e1]
              simpa using S9
            have hlen : k + 1 + (xs.length - k) = (xs.take k ++ x :: xs.drop k).length := by rw [List.length_append, List.length_cons, List.length_drop, List.length_take]; omega
            rw [hlen]
            clear S9 hlen
            have hi64 : ∀ y ∈ xs.take k ++ x :: xs.drop k, I64 y := fun y hy => by
              rcases List.mem_append.1 hy with hy | hy
              · exact hH.out.ok y (List.mem_of_mem_take hy)
              · rcases List.mem_cons.1 hy with rfl | hy
                · exact hx64
                · exact hH.out.ok y (List.mem_of_mem_drop hy)
            clear hi64
            rw [← hP.out] at SZ ⊢
            replace SZ := Lib.hid SZ
            generalize put1 xs x = zs at *
            (refine wpAnyH_ready (rs := [12]) (by kernel_rfl) (by simp) ?_; refine AllReadyH.cons rfl (fun K hK => ?_) AllReadyH.nil)
            go_simp
            refine hK.out _ _ trivial (fun _ => ?_)
            clear hK
            (try simp only [put_rules])
            (refine wpAnyH_done (by kernel_rfl) ?_ _)
            go_wp2_with fail
            go_ret
            exact .inr ⟨a4, c4, rfl, SZ.out⟩
        · skip
          go_simp
          have S1 := HS.out.drew.alloc_box #[.int .i64 x] 3
          (try simp only [World.size_alloc, show w.drew.heap.size = w.heap.size from rfl] at S1)
          replace S1 := Lib.hid S1
          refine hK.out _ _ trivial (fun _ => ?_)
          clear hK HS
          (try simp only [put_rules])
          (refine wpAnyH_ready (rs := [0]) (by kernel_rfl) (by simp) ?_; refine AllReadyH.cons rfl (fun K hK => ?_) AllReadyH.nil)
          go_simp
          have S2 := S1.out.own_made 3 1
          (try simp only [World.size_alloc, show w.drew.heap.size = w.heap.size from rfl] at S2)
          replace S2 := Lib.hid S2
          refine hK.out _ _ trivial (fun _ => ?_)
          clear hK S1
          (try simp only [put_rules])
          (refine wpAnyH_ready (rs := [4]) (by kernel_rfl) (by simp) ?_; refine AllReadyH.cons rfl (fun K hK => ?_) AllReadyH.nil)
          have hsrc := hto.out.grow S2.out.below
          have hown := S2.out.own (i := 0) rfl
          (refine step_append_src rfl _ _ rfl Tryz.underlying33 hi0 hy0 hy1 hy2 rfl (by decide) _ 0 _ rfl hown _ k cap _ rfl hsrc (ints_one _) (by unfold maxLen; omega) (by omega) ?_; intro v2 w2 hown2 hg2 hat2)
          have S3 := S2.out.own_push (i := 0) rfl (bb _) hown2 hg2 hat2
          obtain ⟨a2, c2, rfl⟩ := own_slice hown2
          rw [Nat.zero_add k] at S3 ⊢
          simp only [List.set_cons_zero, List.set_cons_succ] at S3
          refine hK.out _ _ trivial (fun _ => ?_)
          replace S3 := Lib.hid S3
          clear hK S2 hown2 hg2 hat2 hown hsrc
          (try simp only [put_rules])
          (refine wpAnyH_ready (rs := [7]) (by kernel_rfl) (by simp) ?_; refine AllReadyH.cons rfl (fun K hK => ?_) AllReadyH.nil)
          have hown := S3.out.own (i := 0) rfl
          have k9 := S3.out.cell (i := 1) rfl (o := 0) rfl
          (refine step_append_src rfl _ _ rfl Tryz.underlying33 hi0 hy0 hy1 hy2 rfl (by decide) _ _ _ rfl hown _ 1 1 [.int .i64 x] rfl (Src.one k9) (by simp [Value.oneCell']) (by unfold maxLen; omega) (by omega) ?_; intro v3 w3 hown3 hg3 hat3)
          have S4 := S3.out.own_push (i := 0) rfl (bb _) hown3 hg3 hat3
          obtain ⟨a3, c3, rfl⟩ := own_slice hown3
          simp only [List.set_cons_zero, List.set_cons_succ] at S4
          refine hK.out _ _ trivial (fun _ => ?_)
          replace S4 := Lib.hid (Sp.pick [0] S4 rfl)
          clear hK S3 hown3 hg3 hat3 hown k9
          (try simp only [put_rules])
          (refine wpAnyH_ready (rs := [11]) (by kernel_rfl) (by simp) ?_; refine AllReadyH.cons rfl (fun K hK => ?_) AllReadyH.nil)
          have hsrc := hfr.out.grow S4.out.below
          have hown := S4.out.own (i := 0) rfl
          (refine step_append_src rfl _ _ rfl Tryz.underlying33 hi0 hy0 hy1 hy2 rfl (by decide) _ _ _ rfl hown _ (xs.length - k) (cap - k) _ rfl hsrc (ints_one _) (by unfold maxLen; omega) (by omega) ?_; intro v4 w4 hown4 hg4 hat4)
          have S9 := S4.out.own_push (i := 0) rfl (bb _) hown4 hg4 hat4
          obtain ⟨a4, c4, rfl⟩ := own_slice hown4
          refine hK.out _ _ trivial (fun _ => ?_)
          clear hK S4 hown4 hg4 hat4 hown hsrc
          (try simp only [put_rules])
          have SZ : Sp w w4 [Own 3 1 (.slice a4 (xs.take k ++ x :: xs.drop k).length c4) (xs.take k ++ x :: xs.drop k).length ((xs.take k ++ x :: xs.drop k).map (.int .i64))] := by
            have e1 : (xs.take k ++ x :: xs.drop k).length = k + 1 + (xs.length - k) := by rw [List.length_append, List.length_cons, List.length_drop, List.length_take]; omega
            rw [e1]
            simpa using S9
          have hlen : k + 1 + (xs.length - k) = (xs.take k ++ x :: xs.drop k).length := by rw [List.length_append, List.length_cons, List.length_drop, List.length_take]; omega
          rw [hlen]
          clear S9 hlen
          have hi64 : ∀ y ∈ xs.take k ++ x :: xs.drop k, I64 y := fun y hy => by
            rcases List.mem_append.1 hy with hy | hy
            · exact hH.out.ok y (List.mem_of_mem_take hy)
            · rcases List.mem_cons.1 hy with rfl | hy
              · exact hx64
              · exact hH.out.ok y (List.mem_of_mem_drop hy)
          clear hi64
          rw [← hP.out] at SZ ⊢
          replace SZ := Lib.hid SZ
          generalize put1 xs x = zs at *
          (refine wpAnyH_ready (rs := [12]) (by kernel_rfl) (by simp) ?_; refine AllReadyH.cons rfl (fun K hK => ?_) AllReadyH.nil)
          go_simp
          refine hK.out _ _ trivial (fun _ => ?_)
          clear hK
          (try simp only [put_rules])
          (refine wpAnyH_done (by kernel_rfl) ?_ _)
          go_wp2_with fail
          go_ret
          exact .inr ⟨a4, c4, rfl, SZ.out⟩
      · have hke : Hid (k = xs.length) := by unfold Hid; omega
        have hP : Hid (put1 xs x = xs.take k ++ x :: xs.drop k) := by unfold Hid put1; rw [hat.out, if_neg (by rw [List.getElem?_eq_none (by have := hke.out; omega)]; simp)]
        clear HR hgo hat
        have hto := Lib.hid (to_src hH.out hk)
        have hfr := Lib.hid (row_int_from (k := k) hX.out hk)
        have HS := Lib.hid (Sp.start w)
        go_wp2_with fail
        refine wp_region_held_lit (S := (fun _ => True)) 13 [false, false, false, false, false, false, false, false, false, false, false, false, false] (by kernel_rfl) (by kernel_rfl) (by kernel_rfl) ?_ ?_
        · trivial
        intro hS0
        (refine wpAnyH_take (i := 1) (v := ?_) rfl (by kernel_rfl) (by kernel_rfl) (by kernel_rfl) (fun _ _ _ h => h) (Or.inl ⟨by rfl, ?_⟩) (by assumption) ?_; rotate_left; (focus (intro w hSw; (try dsimp only at hSw); go_simp; (try with_reducible rfl); done)); (try simp only [put_rules]))
        (refine wpAnyH_take (i := 2) (v := ?_) rfl (by kernel_rfl) (by kernel_rfl) (by kernel_rfl) (fun _ _ _ h => h) (Or.inl ⟨by rfl, ?_⟩) (by assumption) ?_; rotate_left; (focus (intro w hSw; (try dsimp only at hSw); go_simp; (try with_reducible rfl); done)); (try simp only [put_rules]))
        (refine wpAnyH_take (i := 3) (v := .slice _ k cap) rfl (by kernel_rfl) (by kernel_rfl) (by kernel_rfl) (fun _ _ _ h => h) (Or.inl ⟨by rfl, fun _ _ => exec_slice_to rfl rfl rfl Tryz.underlying33 hi0 (by omega)⟩) (by assumption) ?_; (try simp only [put_rules]))
        (refine wpAnyH_take (i := 5) (v := ?_) rfl (by kernel_rfl) (by kernel_rfl) (by kernel_rfl) (fun _ _ _ h => h) (Or.inl ⟨by rfl, ?_⟩) (by assumption) ?_; rotate_left; (focus (intro w hSw; (try dsimp only at hSw); go_simp; (try with_reducible rfl); done)); (try simp only [put_rules]))
        (refine wpAnyH_take (i := 8) (v := ?_) rfl (by kernel_rfl) (by kernel_rfl) (by kernel_rfl) (fun _ _ _ h => h) (Or.inl ⟨by rfl, ?_⟩) (by assumption) ?_; rotate_left; (focus (intro w hSw; (try dsimp only at hSw); go_simp; (try with_reducible rfl); done)); (try simp only [put_rules]))
        (refine wpAnyH_take (i := 9) (v := ?_) rfl (by kernel_rfl) (by kernel_rfl) (by kernel_rfl) (fun _ _ _ h => h) (Or.inl ⟨by rfl, ?_⟩) (by assumption) ?_; rotate_left; (focus (intro w hSw; (try dsimp only at hSw); go_simp; (try with_reducible rfl); done)); (try simp only [put_rules]))
        (refine wpAnyH_take (i := 10) (v := .slice (cutA _ cap k 1) (xs.length - k) (cap - k)) rfl (by kernel_rfl) (by kernel_rfl) (by kernel_rfl) (fun _ _ _ h => h) (Or.inl ⟨by rfl, fun _ _ => exec_slice_from rfl rfl rfl Tryz.underlying33 hi0 hy1 (by omega)⟩) (by assumption) ?_; (try simp only [put_rules]))
        (refine wpAnyH_ready (rs := [0, 6]) (by kernel_rfl) (by simp) ?_; refine AllReadyH.cons rfl (fun K hK => ?_) (AllReadyH.cons rfl (fun K hK => ?_) AllReadyH.nil))
        · skip
          go_simp
          have S1 := HS.out.drew.own_made 3 1
          (try simp only [World.size_alloc, show w.drew.heap.size = w.heap.size from rfl] at S1)
          replace S1 := Lib.hid S1
          refine hK.out _ _ trivial (fun _ => ?_)
          clear hK HS
          (try simp only [put_rules])
          (refine wpAnyH_ready (rs := [4, 6]) (by kernel_rfl) (by simp) ?_; refine AllReadyH.cons rfl (fun K hK => ?_) (AllReadyH.cons rfl (fun K hK => ?_) AllReadyH.nil))
          · skip
            have hsrc := hto.out.grow S1.out.below
            have hown := S1.out.own (i := 0) rfl
            (refine step_append_src rfl _ _ rfl Tryz.underlying33 hi0 hy0 hy1 hy2 rfl (by decide) _ 0 _ rfl hown _ k cap _ rfl hsrc (ints_one _) (by unfold maxLen; omega) (by omega) ?_; intro v2 w2 hown2 hg2 hat2)
            have S2 := S1.out.own_push (i := 0) rfl (bb _) hown2 hg2 hat2
            obtain ⟨a2, c2, rfl⟩ := own_slice hown2
            rw [Nat.zero_add k] at S2 ⊢
            simp only [List.set_cons_zero, List.set_cons_succ] at S2
            refine hK.out _ _ trivial (fun _ => ?_)
            replace S2 := Lib.hid S2
            clear hK S1 hown2 hg2 hat2 hown hsrc
            (try simp only [put_rules])
            (refine wpAnyH_ready (rs := [6]) (by kernel_rfl) (by simp) ?_; refine AllReadyH.cons rfl (fun K hK => ?_) AllReadyH.nil)
            go_simp
            have S3 := S2.out.alloc_box #[.int .i64 x] 3
            (try simp only [World.size_alloc, show w.drew.heap.size = w.heap.size from rfl] at S3)
            replace S3 := Lib.hid S3
            refine hK.out _ _ trivial (fun _ => ?_)
            clear hK S2
            (try simp only [put_rules])
            (refine wpAnyH_ready (rs := [7]) (by kernel_rfl) (by simp) ?_; refine AllReadyH.cons rfl (fun K hK => ?_) AllReadyH.nil)
            have hown := S3.out.own (i := 1) rfl
            have k9 := S3.out.cell (i := 0) rfl (o := 0) rfl
            (refine step_append_src rfl _ _ rfl Tryz.underlying33 hi0 hy0 hy1 hy2 rfl (by decide) _ _ _ rfl hown _ 1 1 [.int .i64 x] rfl (Src.one k9) (by simp [Value.oneCell']) (by unfold maxLen; omega) (by omega) ?_; intro v3 w3 hown3 hg3 hat3)
            have S4 := S3.out.own_push (i := 1) rfl (bb _) hown3 hg3 hat3
            obtain ⟨a3, c3, rfl⟩ := own_slice hown3
            simp only [List.set_cons_zero, List.set_cons_succ] at S4
            refine hK.out _ _ trivial (fun _ => ?_)
            replace S4 := Lib.hid (Sp.pick [1] S4 rfl)
            clear hK S3 hown3 hg3 hat3 hown k9
            (try simp only [put_rules])
            (refine wpAnyH_ready (rs := [11]) (by kernel_rfl) (by simp) ?_; refine AllReadyH.cons rfl (fun K hK => ?_) AllReadyH.nil)
            have hsrc := hfr.out.grow S4.out.below
            have hown := S4.out.own (i := 0) rfl
            (refine step_append_src rfl _ _ rfl Tryz.underlying33 hi0 hy0 hy1 hy2 rfl (by decide) _ _ _ rfl hown _ (xs.length - k) (cap - k) _ rfl hsrc (ints_one _) (by unfold maxLen; omega) (by omega) ?_; intro v4 w4 hown4 hg4 hat4)
            have S9 := S4.out.own_push (i := 0) rfl (bb _) hown4 hg4 hat4
            obtain ⟨a4, c4, rfl⟩ := own_slice hown4
            refine hK.out _ _ trivial (fun _ => ?_)
            clear hK S4 hown4 hg4 hat4 hown hsrc
            (try simp only [put_rules])
            have SZ : Sp w w4 [Own 3 1 (.slice a4 (xs.take k ++ x :: xs.drop k).length c4) (xs.take k ++ x :: xs.drop k).length ((xs.take k ++ x :: xs.drop k).map (.int .i64))] := by
              have e1 : (xs.take k ++ x :: xs.drop k).length = k + 1 + (xs.length - k) := by rw [List.length_append, List.length_cons, List.length_drop, List.length_take]; omega
              rw [e1]
              simpa using S9
            have hlen : k + 1 + (xs.length - k) = (xs.take k ++ x :: xs.drop k).length := by rw [List.length_append, List.length_cons, List.length_drop, List.length_take]; omega
            rw [hlen]
            clear S9 hlen
            have hi64 : ∀ y ∈ xs.take k ++ x :: xs.drop k, I64 y := fun y hy => by
              rcases List.mem_append.1 hy with hy | hy
              · exact hH.out.ok y (List.mem_of_mem_take hy)
              · rcases List.mem_cons.1 hy with rfl | hy
                · exact hx64
                · exact hH.out.ok y (List.mem_of_mem_drop hy)
            clear hi64
            rw [← hP.out] at SZ ⊢
            replace SZ := Lib.hid SZ
            generalize put1 xs x = zs at *
            (refine wpAnyH_ready (rs := [12]) (by kernel_rfl) (by simp) ?_; refine AllReadyH.cons rfl (fun K hK => ?_) AllReadyH.nil)
            go_simp
            refine hK.out _ _ trivial (fun _ => ?_)
            clear hK
            (try simp only [put_rules])
            (refine wpAnyH_done (by kernel_rfl) ?_ _)
            go_wp2_with fail
            go_ret
            exact .inr ⟨a4, c4, rfl, SZ.out⟩
          · skip
            go_simp
            have S2 := S1.out.alloc_box #[.int .i64 x] 3
            (try simp only [World.size_alloc, show w.drew.heap.size = w.heap.size from rfl] at S2)
            replace S2 := Lib.hid S2
            refine hK.out _ _ trivial (fun _ => ?_)
            clear hK S1
            (try simp only [put_rules])
            (refine wpAnyH_ready (rs := [4]) (by kernel_rfl) (by simp) ?_; refine AllReadyH.cons rfl (fun K hK => ?_) AllReadyH.nil)
            have hsrc := hto.out.grow S2.out.below
            have hown := S2.out.own (i := 1) rfl
            (refine step_append_src rfl _ _ rfl Tryz.underlying33 hi0 hy0 hy1 hy2 rfl (by decide) _ 0 _ rfl hown _ k cap _ rfl hsrc (ints_one _) (by unfold maxLen; omega) (by omega) ?_; intro v2 w2 hown2 hg2 hat2)
            have S3 := S2.out.own_push (i := 1) rfl (bb _) hown2 hg2 hat2
            obtain ⟨a2, c2, rfl⟩ := own_slice hown2
            rw [Nat.zero_add k] at S3 ⊢
            simp only [List.set_cons_zero, List.set_cons_succ] at S3
            refine hK.out _ _ trivial (fun _ => ?_)
            replace S3 := Lib.hid S3
            clear hK S2 hown2 hg2 hat2 hown hsrc
            (try simp only [put_rules])
            (refine wpAnyH_ready (rs := [7]) (by kernel_rfl) (by simp) ?_; refine AllReadyH.cons rfl (fun K hK => ?_) AllReadyH.nil)
            have hown := S3.out.own (i := 1) rfl
            have k9 := S3.out.cell (i := 0) rfl (o := 0) rfl
            (refine step_append_src rfl _ _ rfl Tryz.underlying33 hi0 hy0 hy1 hy2 rfl (by decide) _ _ _ rfl hown _ 1 1 [.int .i64 x] rfl (Src.one k9) (by simp [Value.oneCell']) (by unfold maxLen; omega) (by omega) ?_; intro v3 w3 hown3 hg3 hat3)
            have S4 := S3.out.own_push (i := 1) rfl (bb _) hown3 hg3 hat3
            obtain ⟨a3, c3, rfl⟩ := own_slice hown3
            simp only [List.set_cons_zero, List.set_cons_succ] at S4
            refine hK.out _ _ trivial (fun _ => ?_)
            replace S4 := Lib.hid (Sp.pick [1] S4 rfl)
            clear hK S3 hown3 hg3 hat3 hown k9
            (try simp only [put_rules])
            (refine wpAnyH_ready (rs := [11]) (by kernel_rfl) (by simp) ?_; refine AllReadyH.cons rfl (fun K hK => ?_) AllReadyH.nil)
            have hsrc := hfr.out.grow S4.out.below
            have hown := S4.out.own (i := 0) rfl
            (refine step_append_src rfl _ _ rfl Tryz.underlying33 hi0 hy0 hy1 hy2 rfl (by decide) _ _ _ rfl hown _ (xs.length - k) (cap - k) _ rfl hsrc (ints_one _) (by unfold maxLen; omega) (by omega) ?_; intro v4 w4 hown4 hg4 hat4)
            have S9 := S4.out.own_push (i := 0) rfl (bb _) hown4 hg4 hat4
            obtain ⟨a4, c4, rfl⟩ := own_slice hown4
            refine hK.out _ _ trivial (fun _ => ?_)
            clear hK S4 hown4 hg4 hat4 hown hsrc
            (try simp only [put_rules])
            have SZ : Sp w w4 [Own 3 1 (.slice a4 (xs.take k ++ x :: xs.drop k).length c4) (xs.take k ++ x :: xs.drop k).length ((xs.take k ++ x :: xs.drop k).map (.int .i64))] := by
              have e1 : (xs.take k ++ x :: xs.drop k).length = k + 1 + (xs.length - k) := by rw [List.length_append, List.length_cons, List.length_drop, List.length_take]; omega
              rw [e1]
              simpa using S9
            have hlen : k + 1 + (xs.length - k) = (xs.take k ++ x :: xs.drop k).length := by rw [List.length_append, List.length_cons, List.length_drop, List.length_take]; omega
            rw [hlen]
            clear S9 hlen
            have hi64 : ∀ y ∈ xs.take k ++ x :: xs.drop k, I64 y := fun y hy => by
              rcases List.mem_append.1 hy with hy | hy
              · exact hH.out.ok y (List.mem_of_mem_take hy)
              · rcases List.mem_cons.1 hy with rfl | hy
                · exact hx64
                · exact hH.out.ok y (List.mem_of_mem_drop hy)
            clear hi64
            rw [← hP.out] at SZ ⊢
            replace SZ := Lib.hid SZ
            generalize put1 xs x = zs at *
            (refine wpAnyH_ready (rs := [12]) (by kernel_rfl) (by simp) ?_; refine AllReadyH.cons rfl (fun K hK => ?_) AllReadyH.nil)
            go_simp
            refine hK.out _ _ trivial (fun _ => ?_)
            clear hK
            (try simp only [put_rules])
            (refine wpAnyH_done (by kernel_rfl) ?_ _)
            go_wp2_with fail
            go_ret
            exact .inr ⟨a4, c4, rfl, SZ.out⟩
        · skip
          go_simp
          have S1 := HS.out.drew.alloc_box #[.int .i64 x] 3
          (try simp only [World.size_alloc, show w.drew.heap.size = w.heap.size from rfl] at S1)
          replace S1 := Lib.hid S1
          refine hK.out _ _ trivial (fun _ => ?_)
          clear hK HS
          (try simp only [put_rules])
          (refine wpAnyH_ready (rs := [0]) (by kernel_rfl) (by simp) ?_; refine AllReadyH.cons rfl (fun K hK => ?_) AllReadyH.nil)
          go_simp
          have S2 := S1.out.own_made 3 1
          (try simp only [World.size_alloc, show w.drew.heap.size = w.heap.size from rfl] at S2)
          replace S2 := Lib.hid S2
          refine hK.out _ _ trivial (fun _ => ?_)
          clear hK S1
          (try simp only [put_rules])
          (refine wpAnyH_ready (rs := [4]) (by kernel_rfl) (by simp) ?_; refine AllReadyH.cons rfl (fun K hK => ?_) AllReadyH.nil)
          have hsrc := hto.out.grow S2.out.below
          have hown := S2.out.own (i := 0) rfl
          (refine step_append_src rfl _ _ rfl Tryz.underlying33 hi0 hy0 hy1 hy2 rfl (by decide) _ 0 _ rfl hown _ k cap _ rfl hsrc (ints_one _) (by unfold maxLen; omega) (by omega) ?_; intro v2 w2 hown2 hg2 hat2)
          have S3 := S2.out.own_push (i := 0) rfl (bb _) hown2 hg2 hat2
          obtain ⟨a2, c2, rfl⟩ := own_slice hown2
          rw [Nat.zero_add k] at S3 ⊢
          simp only [List.set_cons_zero, List.set_cons_succ] at S3
          refine hK.out _ _ trivial (fun _ => ?_)
          replace S3 := Lib.hid S3
          clear hK S2 hown2 hg2 hat2 hown hsrc
          (try simp only [put_rules])
          (refine wpAnyH_ready (rs := [7]) (by kernel_rfl) (by simp) ?_; refine AllReadyH.cons rfl (fun K hK => ?_) AllReadyH.nil)
          have hown := S3.out.own (i := 0) rfl
          have k9 := S3.out.cell (i := 1) rfl (o := 0) rfl
          (refine step_append_src rfl _ _ rfl Tryz.underlying33 hi0 hy0 hy1 hy2 rfl (by decide) _ _ _ rfl hown _ 1 1 [.int .i64 x] rfl (Src.one k9) (by simp [Value.oneCell']) (by unfold maxLen; omega) (by omega) ?_; intro v3 w3 hown3 hg3 hat3)
          have S4 := S3.out.own_push (i := 0) rfl (bb _) hown3 hg3 hat3
          obtain ⟨a3, c3, rfl⟩ := own_slice hown3
          simp only [List.set_cons_zero, List.set_cons_succ] at S4
          refine hK.out _ _ trivial (fun _ => ?_)
          replace S4 := Lib.hid (Sp.pick [0] S4 rfl)
          clear hK S3 hown3 hg3 hat3 hown k9
          (try simp only [put_rules])
          (refine wpAnyH_ready (rs := [11]) (by kernel_rfl) (by simp) ?_; refine AllReadyH.cons rfl (fun K hK => ?_) AllReadyH.nil)
          have hsrc := hfr.out.grow S4.out.below
          have hown := S4.out.own (i := 0) rfl
          (refine step_append_src rfl _ _ rfl Tryz.underlying33 hi0 hy0 hy1 hy2 rfl (by decide) _ _ _ rfl hown _ (xs.length - k) (cap - k) _ rfl hsrc (ints_one _) (by unfold maxLen; omega) (by omega) ?_; intro v4 w4 hown4 hg4 hat4)
          have S9 := S4.out.own_push (i := 0) rfl (bb _) hown4 hg4 hat4
          obtain ⟨a4, c4, rfl⟩ := own_slice hown4
          refine hK.out _ _ trivial (fun _ => ?_)
          clear hK S4 hown4 hg4 hat4 hown hsrc
          (try simp only [put_rules])
          have SZ : Sp w w4 [Own 3 1 (.slice a4 (xs.take k ++ x :: xs.drop k).length c4) (xs.take k ++ x :: xs.drop k).length ((xs.take k ++ x :: xs.drop k).map (.int .i64))] := by
            have e1 : (xs.take k ++ x :: xs.drop k).length = k + 1 + (xs.length - k) := by rw [List.length_append, List.length_cons, List.length_drop, List.length_take]; omega
            rw [e1]
            simpa using S9
          have hlen : k + 1 + (xs.length - k) = (xs.take k ++ x :: xs.drop k).length := by rw [List.length_append, List.length_cons, List.length_drop, List.length_take]; omega
          rw [hlen]
          clear S9 hlen
          have hi64 : ∀ y ∈ xs.take k ++ x :: xs.drop k, I64 y := fun y hy => by
            rcases List.mem_append.1 hy with hy | hy
            · exact hH.out.ok y (List.mem_of_mem_take hy)
            · rcases List.mem_cons.1 hy with rfl | hy
              · exact hx64
              · exact hH.out.ok y (List.mem_of_mem_drop hy)
          clear hi64
          rw [← hP.out] at SZ ⊢
          replace SZ := Lib.hid SZ
          generalize put1 xs x = zs at *
          (refine wpAnyH_ready (rs := [12]) (by kernel_rfl) (by simp) ?_; refine AllReadyH.cons rfl (fun K hK => ?_) AllReadyH.nil)
          go_simp
          refine hK.out _ _ trivial (fun _ => ?_)
          clear hK
          (try simp only [put_rules])
          (refine wpAnyH_done (by kernel_rfl) ?_ _)
          go_wp2_with fail
          go_ret
          exact .inr ⟨a4, c4, rfl, SZ.out⟩
end Go.Proofs.YtnfjgebfmnpkbaaGreat

/- The first core of a size: plain facts. -/
namespace Go.Proofs.YtnfjgebfmnpkbaaGreat
open Go.RowKit

/-- All ascending lists of so many of the numbers from one on and below m, in lexicographic order. -/
def combs (m : Nat) : Nat → Nat → List (List Nat)
  | 0, _ => [[]]
  | k + 1, a => (List.range' a (m - a)).flatMap fun v => (combs m k (v + 1)).map (v :: ·)
/-- The first list that goes on from one that has begun. -/
def chF (P : List Nat → Bool) (m : Nat) : Nat → List Nat → Nat → Option (List Nat)
  | 0, begun, _ => if P begun then some begun else none
  | k + 1, begun, a => (List.range' a (m - a)).findSome? fun i => chF P m k (begun ++ [i]) (i + 1)
theorem chF_combs (P : List Nat → Bool) (m : Nat) : ∀ (k : Nat) (begun : List Nat) (a : Nat), chF P m k begun a = ((combs m k a).map (begun ++ ·)).find? P
  | 0, begun, a => by
    simp only [chF, combs, List.map_cons, List.map_nil, List.append_nil, List.find?_cons, List.find?_nil]
    cases P begun <;> rfl
  | k + 1, begun, a => by
    unfold chF combs
    rw [List.map_flatMap, List.find?_flatMap]
    congr 1
    funext i
    rw [chF_combs P m k (begun ++ [i]) (i + 1), List.map_map]
    congr 1
    apply List.map_congr_left
    intro l _
    simp
theorem chF_zero (P : List Nat → Bool) (m a : Nat) (begun : List Nat) : chF P m 0 begun a = if P begun then some begun else none := rfl
/-- What the loop has found before i. -/
def chTo (P : List Nat → Bool) (m k : Nat) (begun : List Nat) (a i : Nat) : Option (List Nat) := (List.range' a (i - a)).findSome? fun j => chF P m k (begun ++ [j]) (j + 1)
theorem chTo_next {P : List Nat → Bool} {m k : Nat} {begun : List Nat} {a i : Nat} (hi : a ≤ i) (h : chTo P m k begun a i = none) (h2 : chF P m k (begun ++ [i]) (i + 1) = none) : chTo P m k begun a (i + 1) = none := by
  unfold chTo at *
  rw [show i + 1 - a = (i - a) + 1 by omega, List.range'_concat, List.findSome?_append, h]
  simp only [Nat.one_mul, Option.none_or]
  rw [show a + (i - a) = i by omega]
  simp [h2]
theorem chTo_found {P : List Nat → Bool} {m k : Nat} {begun : List Nat} {a i : Nat} {r : List Nat} (hi : a ≤ i) (him : i < m) (h : chTo P m k begun a i = none) (h2 : chF P m k (begun ++ [i]) (i + 1) = some r) : chF P m (k + 1) begun a = some r := by
  unfold chTo at h
  rw [chF]
  have he : List.range' a (m - a) = List.range' a (i - a) ++ i :: List.range' (i + 1) (m - (i + 1)) := by
    rw [show i :: List.range' (i + 1) (m - (i + 1)) = List.range' i (m - i) by rw [show m - i = (m - (i + 1)) + 1 by omega, List.range'_succ]]
    have := List.range'_append (s := a) (m := i - a) (n := m - i) (step := 1)
    rw [Nat.one_mul, show a + (i - a) = i by omega, show i - a + (m - i) = m - a by omega] at this
    exact this.symm
  rw [he, List.findSome?_append, h, List.findSome?_cons, h2]
  rfl
theorem chTo_all {P : List Nat → Bool} {m k : Nat} {begun : List Nat} {a : Nat} (h : chTo P m k begun a m = none) : chF P m (k + 1) begun a = none := h
/-- Every list that is found goes on from what has begun, is ascending, and has its length. -/
theorem combs_asc {m : Nat} : ∀ (k a : Nat), ∀ l ∈ combs m k a, l.Pairwise (· < ·) ∧ (∀ i ∈ l, a ≤ i ∧ i < m) ∧ l.length = k
  | 0, a, l, h => by
    obtain rfl : l = [] := by simpa [combs] using h
    simp
  | k + 1, a, l, h => by
    unfold combs at h
    obtain ⟨v, hv, hl⟩ := List.mem_flatMap.1 h
    obtain ⟨t, ht, rfl⟩ := List.mem_map.1 hl
    have h1 := combs_asc k (v + 1) t ht
    have h2 := List.mem_range'_1.1 hv
    refine ⟨List.pairwise_cons.2 ⟨fun x hx => by have := (h1.2.1 x hx).1; omega, h1.1⟩, fun i hi => ?_, by simp [h1.2.2]⟩
    rcases List.mem_cons.1 hi with rfl | hi
    · omega
    · have := h1.2.1 i hi; omega
/-- Each ascending list is among them. -/
theorem asc_combs {m : Nat} : ∀ (l : List Nat) (a : Nat), l.Pairwise (· < ·) → (∀ i ∈ l, a ≤ i ∧ i < m) → l ∈ combs m l.length a
  | [], a, _, _ => by simp [combs]
  | v :: l, a, hp, hb => by
    rw [List.pairwise_cons] at hp
    have hv := hb v (by simp)
    unfold combs
    refine List.mem_flatMap.2 ⟨v, List.mem_range'_1.2 ⟨hv.1, by omega⟩, List.mem_map.2 ⟨l, asc_combs l (v + 1) hp.2 (fun i hi => ⟨hp.1 i hi, (hb i (List.mem_cons_of_mem _ hi)).2⟩), rfl⟩⟩
/-- The first core by size, then in order. -/
def leastTo (P : List Nat → Bool) (m : Nat) (N : Nat) : Option (List Nat) := (List.range N).findSome? fun k => chF P m k [] 0
theorem leastTo_next {P : List Nat → Bool} {m k : Nat} (h : leastTo P m k = none) (h2 : chF P m k [] 0 = none) : leastTo P m (k + 1) = none := by
  unfold leastTo at *
  rw [List.range_succ, List.findSome?_append, h]
  simp [h2]
theorem leastTo_found {P : List Nat → Bool} {m k N : Nat} {r : List Nat} (hk : k < N) (h : leastTo P m k = none) (h2 : chF P m k [] 0 = some r) : leastTo P m N = some r := by
  unfold leastTo at *
  obtain ⟨d, rfl⟩ : ∃ d, N = k + 1 + d := ⟨N - (k + 1), by omega⟩
  have he : ∃ t, List.range (k + 1 + d) = List.range (k + 1) ++ t := by
    rw [List.range_eq_range', List.range_eq_range']
    exact ⟨_, (by simpa using (List.range'_append (s := 0) (m := k + 1) (n := d) (step := 1)).symm)⟩
  obtain ⟨t, ht⟩ := he
  rw [ht, List.range_succ, List.findSome?_append, List.findSome?_append, h]
  simp [h2]
end Go.Proofs.YtnfjgebfmnpkbaaGreat

/- Contracts: all ascending lists of a length, in the program. -/
namespace Go.Proofs.YtnfjgebfmnpkbaaGreat
open Go.RowKit

theorem run_append_keep2 {P : Program} {w : World} {t ty e : TypeId} {i : TypeInfo} {z : Value} {size bytes : Nat} (ht : P.underlying t = some (.slice e)) (hi : P.info? e = some i) (hz : i.zero = some z)
    (hsize : i.size = size) (hby : i.bytes = bytes) (hzs : z.cells.size = size) (hsz : 0 < size)
    (v : Value) (n : Nat) (xs : List Value) (hown : w.ownsRow 0 e size v n xs)
    (a : Addr) (m c : Nat) (news : List Value) (hl : news.length = m * size) (hnews : ∀ j u, news[j]? = some u → w.cell? (a.add j) = some u) (h1 : ∀ u ∈ news, u.oneCell' = true)
    (h63 : n + m ≤ maxLen) (hbytes : (n + m) * bytes ≤ 140737488355328) (hm : 0 < m) :
    ∃ v' w', (Builtin.append_ #[t, t] ty #[v, .slice (some a) m c]).run P w = .ok v' w' ∧ w'.ownsRow 0 e size v' (n + m) (xs ++ news) ∧ w.grownBy w' v.ownBlock ∧
      ((∃ A cap, v = .slice A n cap ∧ v' = .slice A (n + m) cap) ∨ (v'.ownBlock = some w.heap.size ∧ Below w.heap.size w w')) := by
  obtain ⟨v', w', hr, h2, h3, _, h5⟩ := run_append_own_at (P := P) w 0 t ty e i z size bytes ht hi hz hsize hby hzs hsz v n xs hown a m c news hl hnews h1 h63 hbytes (Nat.zero_le _)
  refine ⟨v', w', hr, h2, h3, ?_⟩
  subst hsize
  subst hby
  have hsmall : n + m ≤ 9223372036854775807 := by unfold maxLen at h63; omega
  rcases id hown with ⟨hlen, ⟨rfl, rfl⟩ | ⟨g, cap, cur, rfl, hbg, hg, hnc, hcm, hcs, htake⟩⟩
  · refine .inr ⟨?_, ⟨h3.os, h3.tape, h3.output, h3.size, fun k hk => h3.block k hk (by simp [Value.ownBlock])⟩⟩
    rcases h5 with h5 | h5
    · obtain ⟨_, ⟨rfl, h0⟩ | ⟨g, cap, cur, rfl, _⟩⟩ := h2
      · omega
      · simp [Value.ownBlock] at h5
    · exact h5
  · by_cases hroom : n + m ≤ cap
    · have hfit : n * i.size + news.length ≤ cur.size := by rw [hl, hcs, ← Nat.add_mul]; exact Nat.mul_le_mul_right _ hroom
      have hr2 := run_append_room (P := P) w t ty e i ht hi g n cap cur hg a m c news hl hnews h1 hroom hfit
      rw [hr] at hr2
      injection hr2 with e1 e2
      subst e1
      exact .inl ⟨_, cap, rfl, rfl⟩
    · have holds : ∀ j u, xs[j]? = some u → w.cell? ((⟨g, 0, none⟩ : Addr).add j) = some u := hown.cells (g := g) rfl
      have hr2 := run_append_grow (P := P) w t ty e i z ht hi hz ⟨g, 0, none⟩ n cap xs hlen holds a m c news hl hnews (by omega) (by omega) (growslice_fits (by omega) hbytes)
      rw [hr] at hr2
      injection hr2 with e1 e2
      subst e2
      refine .inr ⟨?_, bal (bdr (bb w)) _⟩
      rcases h5 with h5 | h5
      · subst e1
        exact absurd h5 (by
          simp only [Value.ownBlock]
          intro h
          have hlt := owns_lt hown (g := g) rfl
          simp at h
          omega)
      · exact h5
theorem step_append_keep {P : Program} {w : World} {t e : TypeId} {i : TypeInfo} {z : Value} {size bytes : Nat} {ops : Array Oper} {o : Oper} {a : Act} {K : Act → World → Prop} {Q : Exit → Act → World → Prop} {E : Prop} (hgd : o.guard = none) (s x : Operand)
    (ho : o.op = .call { callee := .builtin .append, args := #[s, x], argTypes := #[t, t] })
    (ht : P.underlying t = some (.slice e)) (hi : P.info? e = some i) (hz : i.zero = some z) (hsize : i.size = size) (hby : i.bytes = bytes) (hzs : z.cells.size = size) (hsz : 0 < size)
    (v : Value) (n : Nat) (xs : List Value) (hs : a.eval s = v) (hown : w.ownsRow 0 e size v n xs) (ad : Addr) (m c : Nat) (news : List Value) (hx : a.eval x = .slice (some ad) m c) (hl : news.length = m * size) (hnews : ∀ j u, news[j]? = some u → w.cell? (ad.add j) = some u) (h1 : ∀ u ∈ news, u.oneCell' = true)
    (h63 : n + m ≤ maxLen) (hbytes : (n + m) * bytes ≤ 140737488355328) (hm : 0 < m)
    (h : ∀ v' w', w'.ownsRow 0 e size v' (n + m) (xs ++ news) → w.grownBy w' v.ownBlock → ((∃ A cap, v = .slice A n cap ∧ v' = .slice A (n + m) cap) ∨ (v'.ownBlock = some w.heap.size ∧ Below w.heap.size w w')) → K (a.put o.dst v') w') :
    if Region.wanted o (yielded ops a.tmps) = true then Oper.wp P o a w K Q else E := by
  have hw : Region.wanted o (yielded ops a.tmps) = true := by simp [Region.wanted, hgd]
  rw [if_pos hw]
  obtain ⟨v', w', hr, h2, h3, h4⟩ := run_append_keep2 (P := P) (w := w) (ty := o.type) ht hi hz hsize hby hzs hsz v n xs hown ad m c news hl hnews h1 h63 hbytes hm
  unfold Oper.wp execOp
  simp only [ho, resolve, invoke, builtin, Sem.run_bind, Sem.run_pure, Result.andThen_ok, List.map_toArray, List.map_cons, List.map_nil, hs, hx, hr]
  exact h v' w' h2 h3 h4

/-- The lists that go on from one. -/
def goL (M : Nat) (xs : List Nat) (d a : Nat) : List (List Int) := (combs M d a).map fun t => ofN (xs ++ t)
def soL (M : Nat) (xs : List Nat) (d a v : Nat) : List (List Int) := (List.range' a (v - a)).flatMap fun u => goL M (xs ++ [u]) d (u + 1)
theorem goL_zero (M : Nat) (xs : List Nat) (a : Nat) : goL M xs 0 a = [ofN xs] := by simp [goL, combs]
theorem soL_start (M : Nat) (xs : List Nat) (d a : Nat) : soL M xs d a a = [] := by simp [soL]
theorem soL_next {M : Nat} {xs : List Nat} {d a v : Nat} (h : a ≤ v) : soL M xs d a (v + 1) = soL M xs d a v ++ goL M (xs ++ [v]) d (v + 1) := by
  unfold soL
  rw [show v + 1 - a = (v - a) + 1 by omega, List.range'_concat, List.flatMap_append]
  simp only [Nat.one_mul, List.flatMap_cons, List.flatMap_nil, List.append_nil]
  rw [show a + (v - a) = v by omega]
theorem soL_all (M : Nat) (xs : List Nat) (d a : Nat) : goL M xs (d + 1) a = soL M xs d a M := by
  unfold goL soL combs
  rw [List.map_flatMap]
  congr 1
  funext u
  rw [List.map_map]
  unfold goL
  apply List.map_congr_left
  intro t _
  simp
theorem soL_mono {M : Nat} {xs : List Nat} {d a : Nat} : ∀ {v : Nat} (j : Nat), a ≤ v → (soL M xs d a v).length ≤ (soL M xs d a (v + j)).length
  | v, 0, _ => Nat.le_refl _
  | v, j + 1, h => by
    have := soL_mono (M := M) (xs := xs) (d := d) (v := v) j h
    rw [show v + (j + 1) = (v + j) + 1 from rfl, soL_next (by omega), List.length_append]
    omega
theorem soL_over {M : Nat} {xs : List Nat} {d a : Nat} (h : M ≤ a) : goL M xs (d + 1) a = [] := by
  rw [soL_all]
  unfold soL
  rw [show M - a = 0 by omega]; rfl
theorem combs_len (M : Nat) : ∀ (d a : Nat), (combs M d a).length ≤ 2 ^ (M - a)
  | 0, a => by simp [combs]; exact Nat.one_le_two_pow
  | d + 1, a => by
    have key : ∀ j b, j = M - b → ((List.range' b j).flatMap fun v => (combs M d (v + 1)).map (v :: ·)).length ≤ 2 ^ j := by
      intro j
      induction j with
      | zero => intro b _; simp
      | succ j ih =>
        intro b hb
        rw [List.range'_succ, List.flatMap_cons, List.length_append, List.length_map]
        have h1 := combs_len M d (b + 1)
        have h2 := ih (b + 1) (by omega)
        rw [show M - (b + 1) = j by omega] at h1
        rw [Nat.pow_succ]; omega
    exact key (M - a) a rfl
end Go.Proofs.YtnfjgebfmnpkbaaGreat

/- Contract: the recursive closure that lists ascending lists, in the program. -/
namespace Go.Proofs.YtnfjgebfmnpkbaaGreat
open Go.RowKit

theorem Sp.move_in {w0 w : World} {q r a b c d e f : Asn} {ps : List Asn} (h : Sp w0 w (q :: r :: a :: b :: c :: d :: e :: f :: ps)) : Sp w0 w (q :: a :: b :: c :: d :: e :: f :: r :: ps) := by
  have h1 : Sp w0 w (f :: q :: r :: a :: b :: c :: d :: e :: ps) := h.bring (i := 7) rfl
  have h2 : Sp w0 w (e :: f :: q :: r :: a :: b :: c :: d :: ps) := h1.bring (i := 7) rfl
  have h3 : Sp w0 w (d :: e :: f :: q :: r :: a :: b :: c :: ps) := h2.bring (i := 7) rfl
  have h4 : Sp w0 w (c :: d :: e :: f :: q :: r :: a :: b :: ps) := h3.bring (i := 7) rfl
  have h5 : Sp w0 w (b :: c :: d :: e :: f :: q :: r :: a :: ps) := h4.bring (i := 7) rfl
  have h6 : Sp w0 w (a :: b :: c :: d :: e :: f :: q :: r :: ps) := h5.bring (i := 7) rfl
  exact h6.bring (i := 6) rfl
theorem Sp.move_out {w0 w : World} {q r a b c d e f : Asn} {ps : List Asn} (h : Sp w0 w (q :: a :: b :: c :: d :: e :: f :: r :: ps)) : Sp w0 w (r :: a :: b :: c :: d :: e :: f :: ps) := by
  have h1 : Sp w0 w (r :: q :: a :: b :: c :: d :: e :: f :: ps) := h.bring (i := 7) rfl
  exact h1.swap.tail
theorem cloneAny (xs : List Nat) (D : Option Addr) (dc : Nat) (w : World) (hx : IntsAt w D (ofN xs)) (hl : xs.length ≤ 1000000) (hD : xs = [] → D = none) :
    Calls Tryz.prog 59 #[.slice D xs.length dc] w fun e w' => ∃ B c, e = .returned (.slice B xs.length c) ∧ Sp w w' [Row Ty.int (.slice B xs.length c) (ofN xs)] := by
  rcases Nat.eq_zero_or_pos xs.length with h0 | h0
  · obtain rfl : xs = [] := List.length_eq_zero_iff.1 h0
    obtain rfl := hD rfl
    have hnil := fun w : World => Lib.run_eql_slice_nil (P := Tryz.prog) w 33 3 none 0 dc 0 0 Tryz.underlying33
    clear hx hD hl h0
    go_enter Tryz.func59, Tryz.ntmps59
    go_wp2_with fail
    go_ret
    exact ⟨none, 0, rfl, (Sp.start w).row_new (F := []) (bb w) (Ty.row_nil _ _ _ _ _ (by decide)) (by simp) (by simp)⟩
  · refine (cloneI_any D xs.length dc (ofN xs) w hx (ofN_len xs) hl h0).mono ?_
    rintro e w' ⟨g, c, rfl, T⟩
    have ho := T.owns_end (i := 0) rfl
    have e2 : xs.length = (ofN xs).length := (ofN_len xs).symm
    rw [e2] at ho ⊢
    obtain ⟨F, hr, hn, hF⟩ := own_row ho hx.2
    exact ⟨_, c, rfl, (Sp.start w).row_new T.below hr hn hF⟩

/- left out: the seat has no func([]int, int) -/

/- left out: the seat has no impl.choices$1 -/
end Go.Proofs.YtnfjgebfmnpkbaaGreat

/- Contract: the core of a Cnf, in the reference. -/
namespace Go.Proofs.YtnfjgebfmnpkbaaGreat
open Go.RowKit

def lenV (v : Value) : Nat := match v with
  | .slice _ n _ => n
  | _ => 0
theorem own_cap {w : World} {B : Nat} {e : TypeId} {size n c : Nat} {A : Option Addr} {xs : List Value} (h : w.ownsRow B e size (.slice A n c) n xs) : n ≤ c := by
  obtain ⟨_, ⟨h1, _⟩ | ⟨g, cap, cur, h1, _, _, hn, _⟩⟩ := h
  · cases h1; exact Nat.le_refl _
  · cases h1; exact hn

/-- The answer's own row, where there is one. -/
def IOwn (w : World) (ok : Bool) (zs : List Int) (e : Ending) (w' : World) : Prop :=
  ∃ B cap, e = .returned (.tuple #[.slice B zs.length cap, .bool ok]) ∧ IntsAt w' B zs ∧ Below w.heap.size w w' ∧ (ok = true → Sp w w' [Own 3 1 (.slice B zs.length cap) zs.length (zs.map (.int .i64))])

/- left out: the seat has no spec.CoreOf -/

/- left out: the seat has no spec.CoreOf -/
end Go.Proofs.YtnfjgebfmnpkbaaGreat

/- Contracts: cores and minimal cores, on both sides. Printed by gen_coj.py. -/
namespace Go.Proofs.YtnfjgebfmnpkbaaGreat
open Go.RowKit

def natL (l : List Int) : List Nat := l.map Int.toNat
theorem natL_ofN (is : List Nat) : natL (ofN is) = is := by
  unfold natL ofN
  rw [List.map_map]
  have : (Int.toNat ∘ fun (i : Nat) => (i : Int)) = id := by funext i; simp
  rw [this, List.map_id]
theorem ris_natL {m : Nat} {l : List Int} (h : risB m l = true) : l = ofN (natL l) ∧ AscN m (natL l) := by
  obtain ⟨is, rfl, h2⟩ := ris_nat h
  rw [natL_ofN]
  exact ⟨rfl, h2⟩
/-- No index is superfluous. -/
def minB (n : Nat) (xss : List (List Int)) (is : List Nat) : Bool := (List.range is.length).all fun k => !coreB n xss (is.eraseIdx k)
theorem min_no {n : Nat} {xss : List (List Int)} {is : List Nat} {k : Nat} (hk : k < is.length) (h : coreB n xss (is.eraseIdx k) = true) : minB n xss is = false := by
  unfold minB
  rw [List.all_eq_false]
  exact ⟨k, List.mem_range.2 hk, by rw [h]; decide⟩
theorem min_next {n : Nat} {xss : List (List Int)} {is : List Nat} {k : Nat} (h0 : ((List.range k).all fun k => !coreB n xss (is.eraseIdx k)) = true) (h : coreB n xss (is.eraseIdx k) = false) : ((List.range (k + 1)).all fun k => !coreB n xss (is.eraseIdx k)) = true := by
  rw [List.range_succ, List.all_append, h0]
  simp [h]
theorem ofN_eraseIdx (is : List Nat) (k : Nat) : (ofN is).eraseIdx k = ofN (is.eraseIdx k) := by
  unfold ofN
  rw [List.eraseIdx_eq_take_drop_succ, List.eraseIdx_eq_take_drop_succ, List.map_append, List.map_take, List.map_drop]
theorem AscN.erase {m : Nat} {is : List Nat} (h : AscN m is) (k : Nat) : AscN m (is.eraseIdx k) := h.sub (List.eraseIdx_sublist _ _)

/- left out: the seat has no spec.l5Takes -/

/- left out: the seat has no impl.IsCore -/

/- left out: the seat has no impl.IsMinimalCore -/

/- left out: the seat has no spec.IsCore -/

/- left out: the seat has no spec.IsMinimalCore -/

end Go.Proofs.YtnfjgebfmnpkbaaGreat

/- Contract: the first core of a size, in the reference. Printed by gen_col.py. -/
namespace Go.Proofs.YtnfjgebfmnpkbaaGreat
open Go.RowKit

/-- What is told of a search. -/
def ChP (w : World) (r : Option (List Nat)) (e : Ending) (w' : World) : Prop := ∃ (B : Option Addr) (c : Nat) (out : List Int), e = .returned (.tuple #[.slice B out.length c, .bool r.isSome]) ∧ (∀ is, r = some is → out = ofN is) ∧ (∀ x ∈ out, I64 x) ∧
  Sp w w' [Own 3 1 (.slice B out.length c) out.length (out.map (.int .i64))]
/-- Where a list goes on. -/
def nextA (l : List Nat) : Nat := match l.getLast? with
  | none => 0
  | some x => x + 1
theorem nextA_snoc (l : List Nat) (i : Nat) : nextA (l ++ [i]) = i + 1 := by simp [nextA]
theorem nextA_nil : nextA [] = 0 := rfl
theorem drew_size2 (w : World) : w.drew.heap.size = w.heap.size := rfl
theorem nextA_at {l : List Nat} (h : 0 < l.length) : nextA l = l[l.length - 1] + 1 := by
  unfold nextA
  rw [List.getLast?_eq_getElem?, List.getElem?_eq_getElem (by omega)]
theorem asc_snoc {m i : Nat} {l : List Nat} (h : AscN m l) (hi : nextA l ≤ i) (him : i < m) : AscN m (l ++ [i]) := by
  refine ⟨List.pairwise_append.2 ⟨h.1, by simp, fun x hx y hy => ?_⟩, fun x hx => ?_⟩
  · obtain rfl : y = i := by simpa using hy
    have hlen : 0 < l.length := List.length_pos_of_mem hx
    have hn := nextA_at hlen
    obtain ⟨j, hj, rfl⟩ := List.getElem_of_mem hx
    have hle : l[j] ≤ l[l.length - 1] := by
      rcases Nat.lt_or_ge j (l.length - 1) with hlt | hge
      · exact Nat.le_of_lt (List.pairwise_iff_getElem.1 h.1 j (l.length - 1) hj (by omega) hlt)
      · have : j = l.length - 1 := by omega
        simp only [this]; exact Nat.le_refl _
    omega
  · rcases List.mem_append.1 hx with hx | hx
    · exact h.2 x hx
    · obtain rfl : x = i := by simpa using hx
      exact him
theorem own_snoc_ints {w0 W : World} {ps : List Asn} {j : Nat} {A : Option Addr} {c i m : Nat} {l : List Nat} {bl : Nat} (hbl : l.length = bl) (hm : m ≤ 1000000) (h : Sp w0 W ps) (hi : ps[j]? = some (Own 3 1 (.slice A (bl + 1) c) (bl + 1) ((ofN l).map (.int .i64) ++ [.int .i64 (i : Int)]))) (ha : AscN m (l ++ [i])) : IntsAt W A (ofN (l ++ [i])) := by
  subst hbl
  have ho := h.own hi
  have e1 : (ofN l).map (Value.int .i64) ++ [.int .i64 (i : Int)] = (ofN (l ++ [i])).map (.int .i64) := by unfold ofN; simp
  have e2 : l.length + 1 = (ofN (l ++ [i])).length := by rw [ofN_len]; simp
  rw [e1, e2] at ho
  obtain ⟨A', c', e3, hT⟩ := ints_own ho (ofN_ok hm ha)
  simp only [Value.slice.injEq] at e3
  obtain ⟨rfl, -, rfl⟩ := e3
  exact hT

/- left out: the seat has no spec.l5Choose -/
end Go.Proofs.YtnfjgebfmnpkbaaGreat

/- Contract: the recursive closure that lists ascending lists, at every depth, where it stops at the limit. -/
namespace Go.Proofs.YtnfjgebfmnpkbaaGreat
open Go.RowKit

/-- What comes until the limit is passed. -/
def capL {α : Type} (lim : Nat) (X : List α) : List α := X.take (lim + 1)
theorem capL_len {α : Type} {lim : Nat} (X : List α) : (capL lim X).length ≤ lim + 1 := by unfold capL; rw [List.length_take]; omega
theorem capL_all {α : Type} {lim : Nat} {X : List α} (h : X.length ≤ lim + 1) : capL lim X = X := List.take_of_length_le h
theorem capL_over {α : Type} {lim : Nat} {X : List α} (h : lim < (capL lim X).length) (Y : List α) : capL lim (X ++ Y) = capL lim X := by
  unfold capL at *; rw [List.length_take] at h; exact List.take_append_of_le_length (by omega)
theorem capL_step {α : Type} {lim : Nat} (X Y : List α) : capL lim (capL lim X ++ Y) = capL lim (X ++ Y) := by
  unfold capL
  rw [List.take_append, List.take_append, List.take_take, Nat.min_self, List.length_take]
  by_cases h : X.length ≤ lim + 1
  · rw [show min (lim + 1) X.length = X.length by omega]
  · rw [show lim + 1 - min (lim + 1) X.length = 0 by omega, show lim + 1 - X.length = 0 by omega]
theorem capL_mem {α : Type} {lim : Nat} {X : List α} {x : α} (h : x ∈ capL lim X) : x ∈ X := List.mem_of_mem_take h

/- left out: the seat has no impl.choices$1 -/

/- left out: the seat has no impl.choices$1 -/
end Go.Proofs.YtnfjgebfmnpkbaaGreat

/- Contract: the ascending lists of a length, at most one more than the limit, in the program. -/
namespace Go.Proofs.YtnfjgebfmnpkbaaGreat
open Go.RowKit

/- left out: the seat has no impl.choices -/
end Go.Proofs.YtnfjgebfmnpkbaaGreat

/- Memory in parts beside a cursor that turns: rows of rows. -/
namespace Go.Proofs.YtnfjgebfmnpkbaaGreat
open Go.RowKit

/-- An own row of numbers is a row with all that it reaches. -/
theorem Sp.own_to_row {w0 w : World} {ps : List Asn} {e : TypeId} {v : Value} {c : List Int} (h : Sp w0 w (Own e 1 v c.length (c.map (.int .i64)) :: ps)) (hok : ∀ x ∈ c, I64 x) : Sp w0 w (Row Ty.int v c :: ps) := by
  obtain ⟨F, ⟨rfl, ho⟩, _, hall⟩ := h.upd (i := 0) rfl
  obtain ⟨F, hr, hF, _⟩ := Ty.row_of_owns (T := Ty.int) ho rfl (by decide) (Ty.all_int hok)
  refine hall w (Row Ty.int v c) F (Chg.refl _ _) ⟨hr, ?_⟩ fun b hb => .inl ?_
  · rcases hF with rfl | ⟨g, _, _, _, rfl⟩ <;> simp
  · rcases hF with rfl | ⟨g, _, _, hg, rfl⟩
    · simp at hb
    · simp [hg] at hb ⊢; exact hb
section
variable {w0 w w' w1 : World} {g cl cc A i : Nat} {ca : Option Addr} {ps : List Asn} {e : TypeId}
theorem CS.own_to_row {v : Value} {c : List Int} (h : CS w0 g ca cl cc A w (Own e 1 v c.length (c.map (.int .i64)) :: ps)) (hok : ∀ x ∈ c, I64 x) : CS w0 g ca cl cc A w (Row Ty.int v c :: ps) := by
  obtain ⟨F, ⟨rfl, ho⟩, _, hall⟩ := h.upd (i := 0) rfl
  obtain ⟨F, hr, hF, _⟩ := Ty.row_of_owns (T := Ty.int) ho rfl (by decide) (Ty.all_int hok)
  refine hall w (Row Ty.int v c) F (Chg.refl _ _) ⟨hr, ?_⟩ fun b hb => .inl ?_
  · rcases hF with rfl | ⟨g, _, _, _, rfl⟩ <;> simp
  · rcases hF with rfl | ⟨g, _, _, hg, rfl⟩
    · simp at hb
    · simp [hg] at hb ⊢; exact hb
variable {α : Type} {T : Ty α} {v v' u : Value} {cs : List Value} {xss : List (List α)} {ys : List α}
theorem CS.rows (h : CS w0 g ca cl cc A w ps) (hi : ps[i]? = some (Rows T e v cs xss)) : w.ownsRow 0 e 1 v xss.length cs := by
  obtain ⟨F, ⟨G, _, _, _, h⟩, _⟩ := h.get hi
  exact h
theorem CS.rows_made (h : CS w0 g ca cl cc A w ps) (T : Ty α) (e : TypeId) : CS w0 g ca cl cc A (w.alloc (.cells #[] e)) (Rows T e (.slice (some ⟨w.heap.size, 0, none⟩) 0 0) [] [] :: ps) :=
  h.new (F := [w.heap.size]) (bal (bb _) _) ⟨[], rfl, by simp, ⟨rfl, rfl⟩, ⟨by simp, .inr ⟨w.heap.size, 0, #[], rfl, Nat.zero_le _, heap_alloc_new w _, Nat.le_refl _, by decide, by simp, by simp⟩⟩⟩ (by simp)
/-- A row goes into a row of rows. -/
theorem CS.rows_push (h : CS w0 g ca cl cc A w (Row T u ys :: Rows T e v cs xss :: ps)) (hb : Below w.heap.size w w1) (ho : w'.ownsRow 0 e 1 v' (xss.length + 1) (cs ++ [u])) (hg : w1.grownBy w' v.ownBlock)
    (hat : v'.ownBlock = v.ownBlock ∨ v'.ownBlock = some w1.heap.size) : CS w0 g ca cl cc A w' (Rows T e v' (cs ++ [u]) (xss ++ [ys]) :: ps) := by
  have hsz := h.chg.size
  obtain ⟨⟨A0, h0'⟩, hcur, h1, F, ⟨F1, F2, rfl, hd, ⟨hr, hn⟩, ⟨F3, F4, rfl, hd', ⟨G, rfl, hn', hall, hown⟩, h5⟩⟩, h3⟩ := h
  have hr1 := Ty.row_keep hr fun b hm => hb.block b (Ty.row_lt hr b hm)
  have hall1 := Ty.all_keep hall fun b hm => hb.block b (Ty.all_lt hall b hm)
  have h51 := sep_keep h5 fun b hm => hb.block b (sep_lt h5 b hm)
  have hkeep : ∀ b, b < w.heap.size → (∀ g, v.ownBlock = some g → b ≠ g) → w'.heap[b]? = w1.heap[b]? := fun b hlt hne => hg.block b (Nat.lt_of_lt_of_le hlt hb.size) (fun e => hne b e.symm rfl)
  have hr2 := Ty.row_keep hr1 fun b hm => hkeep b (Ty.row_lt hr b hm) fun g hg' e => hd b hm (by simp [hg', e])
  have hnG : ∀ b ∈ G, ∀ g, v.ownBlock = some g → b ≠ g := fun b hm g hg' e => by
    rw [List.nodup_append] at hn'
    exact hn'.2.2 g (by simp [hg']) b hm e.symm
  have hall2 := Ty.all_keep hall1 fun b hm => hkeep b (Ty.all_lt hall b hm) (hnG b hm)
  have h52 := sep_keep h51 fun b hm => hkeep b (sep_lt h5 b hm) fun g hg' e => hd' b (by simp [hg', e]) hm
  have hlv : ∀ b ∈ v'.ownBlock.toList, b ∈ v.ownBlock.toList ∨ b = w1.heap.size := fun b hm => by
    rcases hat with h | h
    · left; rwa [h] at hm
    · right; rw [h] at hm; simpa using hm
  have hs := hb.size
  have hold : ∀ k, k < w0.heap.size → w'.heap[k]? = w.heap[k]? := fun k hk => (hkeep k (by omega) fun g hg' e => by have := h3 g (by simp [hg']); omega).trans (hb.block k (by omega))
  have hchg : Chg [g] w0 w' := ⟨hg.os.trans (hb.os.trans h1.os), hg.tape.trans (hb.tape.trans h1.tape), hg.output.trans (hb.output.trans h1.output), by have := hg.size; omega, fun k hk hn => (hold k hk).trans (h1.block k hk hn)⟩
  refine ⟨⟨A0, h0'⟩, h0'.stay hcur hold, hchg, (v'.ownBlock.toList ++ (G ++ F1)) ++ F4, ⟨_, F4, rfl, ?_, ⟨G ++ F1, rfl, ?_, ?_, by simpa using ho⟩, h52⟩, ?_⟩
  · intro b hm hm4
    rcases List.mem_append.1 hm with hm | hm
    · rcases hlv b hm with h | h
      · exact hd' b (List.mem_append.2 (.inl h)) hm4
      · have := sep_lt h5 b hm4; omega
    · rcases List.mem_append.1 hm with hm | hm
      · exact hd' b (List.mem_append.2 (.inr hm)) hm4
      · exact hd b hm (List.mem_append.2 (.inr hm4))
  · refine List.nodup_append.2 ⟨by cases v'.ownBlock <;> simp, List.nodup_append.2 ⟨(List.nodup_append.1 hn').2.1, hn, fun x hx y hy e => hd y hy (by simp [← e, hx])⟩, fun x hx y hy e => ?_⟩
    subst e
    rcases hlv x hx with h | h
    · rcases List.mem_append.1 hy with hy | hy
      · exact (List.nodup_append.1 hn').2.2 x h x hy rfl
      · exact hd x hy (List.mem_append.2 (.inl (List.mem_append.2 (.inl h))))
    · rcases List.mem_append.1 hy with hy | hy
      · have := Ty.all_lt hall x hy; omega
      · have := Ty.row_lt hr x hy; omega
  · exact Ty.all_snoc hall2 ⟨u, rfl, hr2⟩
  · intro b hm
    rcases List.mem_append.1 hm with hm | hm
    · rcases List.mem_append.1 hm with hm | hm
      · rcases hlv b hm with h | h
        · exact h3 b (by simp at h ⊢; simp [h])
        · omega
      · rcases List.mem_append.1 hm with hm | hm
        · exact h3 b (by simp [hm])
        · exact h3 b (by simp [hm])
    · exact h3 b (by simp [hm])
/-- The finished row of rows. -/
theorem CS.rows_done (h : CS w0 g ca cl cc A w ps) (hi : ps[i]? = some (Rows T e v cs xss)) : ∃ F, (Ty.slice T).row true w v xss F ∧ F.Nodup ∧ (∀ b ∈ F, w0.heap.size ≤ b) := by
  obtain ⟨F, ⟨G, rfl, hn, hall, hown⟩, hF⟩ := h.get hi
  obtain ⟨F', hr, hF', _⟩ := Ty.row_of_owns hown rfl (by decide) hall
  rcases hF' with rfl | ⟨g, _, _, ho, rfl⟩
  · exact ⟨[], hr, by simp, by simp⟩
  · refine ⟨g :: G, hr, ?_, ?_⟩
    · rw [ho] at hn; simpa using hn
    · rw [ho] at hF; simpa using hF
end
end Go.Proofs.YtnfjgebfmnpkbaaGreat

/- Contracts: Cnfs compared in the laws; rows and lists of rows copied, on both sides. -/
namespace Go.Proofs.YtnfjgebfmnpkbaaGreat
open Go.RowKit

set_option maxRecDepth 100000 in
set_option maxHeartbeats 4000000 in
theorem vTable_same (A A' : Option Addr) (c c' : Nat) (xss : List (List Int)) (w : World) (hx : ClsAt w A xss) (hy : ClsAt w A' xss) (hl : xss.length ≤ 1000000) (hs : ∀ c ∈ xss, c.length ≤ 1000000) :
    Calls Tryz.prog 28 #[.slice A xss.length c, .slice A' xss.length c'] w fun e w' => e = .returned (.bool true) ∧ Below w.heap.size w w' := by
  have hN := Lib.hid hx
  have hM := Lib.hid hy
  have hS := Lib.hid hs
  clear hx hy hs
  go_enter Tryz.func28, Tryz.ntmps28
  go_wp2_with fail
  go_loopw [5] (fun i wr => ∃ k : Nat, k ≤ xss.length ∧ i = .int .i64 k ∧ Hid (Below w.heap.size w wr)) (fun i _ => xss.length - (intOf i).toNat)
  case atStart => exact ⟨0, Nat.zero_le _, rfl, bb _⟩
  case round =>
    obtain ⟨k, hk, rfl, HS⟩ := hrel
    by_cases hlt : k < xss.length
    · obtain ⟨b, off, D, dc, rfl, m0, hI⟩ := (hN.out.grow HS.out).at_ k hlt
      obtain ⟨b', off', E, ec, rfl, p0, hJ⟩ := (hM.out.grow HS.out).at_ k hlt
      have hcall := Lib.hid (fun W (h : Below wr.heap.size wr W) => vInts_same D E dc ec xss[k] W (hI.grow h) (hJ.grow h) (hS.out _ (List.getElem_mem hlt)))
      have k0 := cell_regrown m0
      have q0 := cell_regrown p0
      generalize xss[k] = v at *
      clear m0 p0 hI hJ
      go_wp2_with fail
      refine wp_region_quiet_below (by kernel_rfl) (by kernel_rfl) ?_
      repeat (any_goals (first | go_big_quiet_step ((go_at_call 11; exact Calls.regrown_of (hcall.out _ (below_regrown _ _ _))))))
      refine wpQuiet_nil ?_
      rintro w3 ⟨p, rfl⟩
      have HS4 := Lib.hid (btr HS.out (below_regrown _ p.d p.os))
      clear HS k0 q0 hcall
      go_wp2_with fail
      go_roundw
      case rel => exact ⟨k + 1, by omega, by go_num, HS4⟩
      case measure => simp [intOf]; omega
    · obtain rfl : k = xss.length := by omega
      have hB := HS.out
      go_wp2_with fail
      go_ret
      exact ⟨rfl, hB⟩

set_option maxHeartbeats 2000000 in
theorem vCnf_same (vars : Int) (A A' : Option Addr) (c c' : Nat) (xss : List (List Int)) (w : World) (hx : ClsAt w A xss) (hy : ClsAt w A' xss) (hl : xss.length ≤ 1000000) (hs : ∀ c ∈ xss, c.length ≤ 1000000) :
    Calls Tryz.prog 8 #[.agg #[.int .i64 vars, .slice A xss.length c], .agg #[.int .i64 vars, .slice A' xss.length c']] w fun e w' => e = .returned (.bool true) ∧ Below w.heap.size w w' := by
  have S0 := ((Sp.start w).alloc_box #[.int .i64 vars, .slice A xss.length c] 29).alloc_box #[.int .i64 vars, .slice A' xss.length c'] 29
  simp only [World.size_alloc] at S0
  have hcall := Lib.hid (vTable_same A A' c c' xss _ (hx.grow S0.below) (hy.grow S0.below) hl hs)
  have a0 := S0.cell (i := 1) rfl (o := 0) rfl
  have a1 := S0.cell (i := 1) rfl (o := 1) rfl
  have b0 := S0.cell (i := 0) rfl (o := 0) rfl
  have b1 := S0.cell (i := 0) rfl (o := 1) rfl
  replace S0 := Lib.hid S0
  generalize xss.length = m at *
  have hv : (vars == vars) = true := by simp
  clear hx hy hs
  go_enter Tryz.func8, Tryz.ntmps8
  go_wp2_with fail
  refine hcall.out.mono ?_
  rintro e w1 ⟨rfl, hb1⟩
  have hB := Lib.hid (S0.out.grow hb1).below
  clear S0 hcall hb1 a0 a1 b0 b1
  go_wp2_with fail
  go_ret
  exact ⟨rfl, hB.out⟩

/-- A copy of a row of numbers. -/
theorem cloneA_any (A : Option Addr) (cap : Nat) (xs : List Int) (w : World) (hx : IntsAt w A xs) (hl : xs.length ≤ 1000000) :
    Calls Tryz.prog 59 #[.slice A xs.length cap] w (OneI w xs) := by
  rcases Nat.eq_zero_or_pos xs.length with h0 | h0
  · obtain rfl : xs = [] := List.length_eq_zero_iff.1 h0
    cases A with
    | none =>
      refine (Tryz.slices_Clone_int_nil 0 cap w).mono ?_
      rintro e w' ⟨rfl, rfl⟩
      exact ⟨none, 0, rfl, (Sp.start _).own_nil _ _⟩
    | some a =>
      refine (Tryz.slices_Clone_int_zero a cap w).mono ?_
      rintro e w' ⟨v, rfl, ho, -, hb⟩
      have S := (Sp.start w).own_new hb (owns_zero ho) (owns_ge ho)
      obtain ⟨B, c, rfl⟩ := own_slice ho
      exact ⟨B, c, rfl, S⟩
  · obtain ⟨b, off, rfl, -⟩ := hx.at_ 0 h0
    have h := Tryz.slices_Clone_int b off xs.length cap xs w (Nat.le_refl _) (by omega) fun j hj => by
      obtain ⟨b', off', e, h1⟩ := hx.at_ j hj
      cases e
      rw [h1, List.getD_eq_getElem?_getD, List.getElem?_eq_getElem hj]; rfl
    refine h.mono ?_
    rintro e w' ⟨v, rfl, ho, -, hb⟩
    rw [List.take_length] at ho
    have S := (Sp.start w).own_new hb (owns_zero ho) (owns_ge ho)
    obtain ⟨B, c, rfl⟩ := own_slice ho
    exact ⟨B, c, rfl, S⟩

set_option maxHeartbeats 1000000 in
theorem l1OwnI_any (A : Option Addr) (cap : Nat) (xs : List Int) (w : World) (hx : IntsAt w A xs) (hl : xs.length ≤ 1000000) :
    Calls Tryz.prog 88 #[.slice A xs.length cap] w (OneI w xs) := by
  obtain ⟨i0, hi, hz0, hz1, hz2⟩ := info_parts infoInt
  have S0 := (Sp.start w).own_made 3 1
  have hsrc := ints_src (hx.grow S0.below) rfl
  replace S0 := Lib.hid S0
  replace hsrc := Lib.hid hsrc
  clear hx
  go_enter Tryz.func88, Tryz.ntmps88
  go_wp2_with (at_builtin; refine wpList_append_src rfl _ _ rfl Tryz.underlying33 hi hz0 hz1 hz2 rfl (by decide) _ _ _ rfl (S0.out.own (i := 0) rfl) A xs.length cap _ rfl hsrc.out (ints_one xs) ?c3 ?c4 ?_)
  case c3 => unfold maxLen; omega
  case c4 => omega
  intro v' w1 hown hg hat
  have S1 := S0.out.own_push (i := 0) rfl (bb _) hown hg (by simpa using hat)
  obtain ⟨a, c', rfl⟩ := own_slice hown
  replace S1 := Lib.hid S1
  clear hown hg hat S0
  go_wp2_with fail
  go_ret
  exact ⟨a, c', rfl, S1.out⟩
end Go.Proofs.YtnfjgebfmnpkbaaGreat

/- Contracts: lists of rows copied, on both sides. -/
namespace Go.Proofs.YtnfjgebfmnpkbaaGreat
open Go.RowKit Go.Shelf

/-- Rows of the call's own. -/
def RowsP (w : World) (xss : List (List Int)) (e : Ending) (w' : World) : Prop := ∃ B cap cs, e = .returned (.slice B xss.length cap) ∧ Sp w w' [Rows Ty.int 33 (.slice B xss.length cap) cs xss]
theorem take_snoc {α : Type} {l : List α} {k : Nat} (h : k < l.length) : l.take k ++ [l[k]] = l.take (k + 1) := (List.take_succ_eq_append_getElem h).symm

/- left out: the seat has no impl.cloneLists -/
end Go.Proofs.YtnfjgebfmnpkbaaGreat

/- Contracts: two lists of rows put together, in the library. -/
namespace Go.Proofs.YtnfjgebfmnpkbaaGreat
open Go.RowKit Go.Shelf

/- left out: the seat has no slices.Grow[[][]int,[]int] -/

/- left out: the seat has no slices.Grow[[][]int,[]int] -/

def szK (n1 n2 : Nat) : Nat → Nat
  | 0 => 0
  | 1 => n1
  | _ => n1 + n2
def catK (us1 us2 : List Value) : Nat → List Value
  | 0 => []
  | 1 => us1
  | _ => us1 ++ us2

/- left out: the seat has no slices.Concat[[][]int,[]int] -/
end Go.Proofs.YtnfjgebfmnpkbaaGreat

/- Contracts: clauses joined and resolved in the reference, told weakly. -/
namespace Go.Proofs.YtnfjgebfmnpkbaaGreat
open Go.RowKit

/-- A row of its own within bounds, and a flag. -/
def JoinW (n : Nat) (w : World) (e : Ending) (w' : World) : Prop :=
  ∃ v c q, e = .returned (.tuple #[v, .bool q]) ∧ w'.ownsRow w.heap.size 3 1 v c.length (c.map (.int .i64)) ∧ c.length ≤ n ∧ Within 1000 c ∧ Below w.heap.size w w'
theorem Sp.drop2w {w0 w : World} {p q : Asn} {ps : List Asn} (h : Sp w0 w (p :: q :: ps)) : Sp w0 w (p :: ps) := h.swap.tail

set_option maxRecDepth 100000 in
set_option maxHeartbeats 4000000 in
theorem l2JoinW_any (v u : Value) (a b : List Int) (F G : List Nat) (w : World) (hx : Ty.int.row false w v a F) (hy : Ty.int.row false w u b G) (wa : Within 1000 a) (wb : Within 1000 b) (la : a.length ≤ 1000) (lb : b.length ≤ 1000) :
    Calls Tryz.prog 78 #[v, u] w (JoinW (a.length + b.length) w) := by
  obtain ⟨aa, ac, rfl, _, _⟩ := Ty.row_len hx
  obtain ⟨ba, bc, rfl, hy1, hy2, _, hy3⟩ := row_int hy
  go_enter Tryz.func78, Tryz.ntmps78
  go_wp2_with fail
  refine (l1Own_any _ a F w hx (by omega)).mono ?_
  rintro e w1 ⟨v1, rfl, ho1, hb1⟩
  have S0 := (Sp.start w).own_call hb1 ho1
  obtain ⟨a1, c1, rfl⟩ := owns_form ho1
  replace S0 := Lib.hid S0
  have hW0 := Lib.hid wa
  clear ho1 hb1
  go_wp2_with fail
  go_loopw [6, 7] (fun s i wr => ∃ (k : Nat) (out : List Int), k ≤ b.length ∧ i = .int .i64 k ∧ out.length ≤ a.length + k ∧ Hid (Within 1000 out) ∧ Hid (Sp w wr [Own 3 1 s out.length (out.map (.int .i64))])) (fun _ i _ => b.length - (intOf i).toNat)
  case atStart => exact ⟨0, a, Nat.zero_le _, rfl, by omega, hW0, S0⟩
  case round =>
    obtain ⟨k, out, hk, rfl, hol, HW, HS⟩ := hrel
    clear S0
    obtain ⟨sa, sc, rfl⟩ := owns_form (HS.out.own (i := 0) rfl)
    by_cases hlt : k < b.length
    · rcases hy3 with ⟨rfl, rfl⟩ | ⟨hyn, bk, off, rfl, rfl, hyc⟩
      · exact absurd hlt (by simp)
      have hB := HS.out.below
      have k0 := ((hyc k hlt).keep (hB.block bk (hyc k hlt).lt)).1
      have hl6 := wb _ (List.getElem_mem hlt)
      obtain ⟨H, hrow', -, -⟩ := own_row (HS.out.own (i := 0) rfl) (HW.out.i64 (by decide))
      have hrow := Ty.row_down hrow'
      obtain ⟨l, hl⟩ : ∃ l, l = b[k] := ⟨_, rfl⟩
      rw [← hl] at k0 hl6
      have hneg : wrap64 (-l) = -l := by unfold wrap64; omega
      have hl0 : -1000 ≤ l := hl6.1
      have hl1 : l ≤ 1000 := hl6.2
      replace hl := Lib.hid hl
      clear hyc hB hl hl6 hrow'
      cases hq : hasI out (-l)
      · cases hq2 : hasI out l
        · have HN := Lib.hid (within_put HW.out ⟨hl0, hl1⟩)
          have hpl := Lib.hid (put_len out l)
          have hol9 : out.length ≤ 1000000000 := by omega
          go_wp2_with (first
            | (go_at_call 89; (first | (with_reducible refine (l2Has_at hrow hq).mono ?_) | (with_reducible refine (l2Has_at hrow hq2).mono ?_)); rintro e w2 ⟨rfl, rfl⟩)
            | (go_at_call 90; (with_reducible refine (l2Put_any _ out l H _ hrow hol9).mono ?_); rintro e w2 ⟨v2, rfl, ho2, hb2⟩))
          have S1 := (HS.out.own_call hb2 ho2).drop2w
          obtain ⟨a2, c2, rfl⟩ := owns_form ho2
          replace S1 := Lib.hid S1
          clear ho2 hb2 HS hrow
          generalize putB out l = out2 at *
          go_wp2_with fail
          go_roundw
          case rel => exact ⟨k + 1, out2, by omega, by go_num, by rw [hpl.out]; omega, HN, S1⟩
          case measure => simp [intOf]; omega
        · go_wp2_with (first
            | (go_at_call 89; (first | (with_reducible refine (l2Has_at hrow hq).mono ?_) | (with_reducible refine (l2Has_at hrow hq2).mono ?_)); rintro e w2 ⟨rfl, rfl⟩))
          go_roundw
          case rel => exact ⟨k + 1, out, by omega, by go_num, by omega, HW, HS⟩
          case measure => simp [intOf]; omega
      · go_wp2_with (first
          | (go_at_call 89; (first | (with_reducible refine (l2Has_at hrow hq).mono ?_)); rintro e w2 ⟨rfl, rfl⟩))
        have S1 := Lib.hid (HS.out.own_made 3 1)
        go_ret2
        exact ⟨_, [], false, rfl, S1.out.owns_end (i := 0) rfl, by simp, fun x hx => by simp at hx, S1.out.below⟩
    · obtain rfl : k = b.length := by omega
      go_wp2_with fail
      go_ret2
      exact ⟨_, out, true, rfl, HS.out.owns_end (i := 0) rfl, by omega, HW.out, HS.out.below⟩

/- left out: the seat has no spec.l2Resolve -/
end Go.Proofs.YtnfjgebfmnpkbaaGreat

/- Plain facts: clauses of up to a thousand variables: literals in order, put in, joined. No program in sight. -/
namespace Go.Proofs.YtnfjgebfmnpkbaaGreat
open Go.RowKit

theorem hasS_iff {xs : List Int} {x : Int} : hasI xs x = true ↔ x ∈ xs := by unfold hasI; simp
theorem hasS_not {xs : List Int} {x : Int} : hasI xs x = false ↔ x ∉ xs := by rw [← hasS_iff]; simp
theorem LitS.abs {l : Int} (h : LitS l) : absV l = if l < 0 then -l else l := by
  rw [absV_lit h]; split <;> omega
def AscS (x y : Int) : Prop := absV x < absV y
/-- A clause in order. -/
structure GoodS (c : List Int) : Prop where
  mem : ∀ l ∈ c, LitS l
  asc : c.Pairwise AscS
theorem good_s {vars : Int} {c : List Int} (h : clauseB vars c = true) : GoodS c := by
  have h1 := (clause_s h).1
  refine ⟨h1, ?_⟩
  have h2 := clause_rising h
  rw [List.pairwise_iff_getElem] at h2 ⊢
  intro i j hi hj hij
  unfold AscS
  rw [absV_lit (h1 _ (List.getElem_mem hi)), absV_lit (h1 _ (List.getElem_mem hj))]
  exact Int.ofNat_lt.2 (h2 i j hi hj hij)
theorem GoodS.clash {c : List Int} (h : GoodS c) {x : Int} (hx : x ∈ c) (hy : -x ∈ c) : False := by
  have hl := h.mem x hx
  have key : ∀ {y z : Int}, y ∈ c → z ∈ c → absV y = absV z → y = z := fun {y z} hy hz e => by
    obtain ⟨i, hi, rfl⟩ := List.getElem_of_mem hy
    obtain ⟨j, hj, rfl⟩ := List.getElem_of_mem hz
    have hp := List.pairwise_iff_getElem.1 h.asc
    rcases Nat.lt_trichotomy i j with hij | hij | hij
    · have := hp i j hi hj hij; unfold AscS at this; omega
    · subst hij; rfl
    · have := hp j i hj hi hij; unfold AscS at this; omega
  have := key hx hy (by rw [hl.abs, (h.mem _ hy).abs]; unfold LitS at hl; split <;> split <;> omega)
  unfold LitS at hl
  omega
theorem GoodS.ext {a b : List Int} (ha : GoodS a) (hb : GoodS b) (h : ∀ x, x ∈ a ↔ x ∈ b) : a = b := by
  have key : ∀ {a b : List Int}, a.Pairwise AscS → b.Pairwise AscS → (∀ x, x ∈ a ↔ x ∈ b) → a = b := by
    intro a
    induction a with
    | nil =>
      intro b _ _ h
      cases b with
      | nil => rfl
      | cons y b => exact absurd ((h y).2 List.mem_cons_self) (by simp)
    | cons x a ih =>
      intro b ha hb h
      cases b with
      | nil => exact absurd ((h x).1 List.mem_cons_self) (by simp)
      | cons y b =>
        rw [List.pairwise_cons] at ha hb
        unfold AscS at ha hb
        have e : x = y := by
          rcases List.mem_cons.1 ((h x).1 List.mem_cons_self) with e | hx
          · exact e
          rcases List.mem_cons.1 ((h y).2 List.mem_cons_self) with e | hy
          · exact e.symm
          have := hb.1 x hx; have := ha.1 y hy; omega
        subst e
        congr 1
        refine ih ha.2 hb.2 fun z => ⟨fun hz => ?_, fun hz => ?_⟩
        · rcases List.mem_cons.1 ((h z).1 (List.mem_cons_of_mem _ hz)) with e | h2
          · have := ha.1 z hz; rw [e] at this; omega
          · exact h2
        · rcases List.mem_cons.1 ((h z).2 (List.mem_cons_of_mem _ hz)) with e | h2
          · have := hb.1 z hz; rw [e] at this; omega
          · exact h2
  exact key ha.asc hb.asc h
theorem memS_putB {c : List Int} {l x : Int} : x ∈ putB c l ↔ x = l ∨ x ∈ c := by
  unfold putB
  rw [List.mem_append, List.mem_cons]
  conv => rhs; rw [← List.take_append_drop (litAt c l) c, List.mem_append]
  exact ⟨fun h => by rcases h with h | h | h <;> simp [h], fun h => by rcases h with h | h | h <;> simp [h]⟩
theorem GoodS.put {c : List Int} (h : GoodS c) {l : Int} (hl : LitS l) (hn : ∀ y ∈ c, absV y ≠ absV l) : GoodS (putB c l) := by
  refine ⟨fun x hx => ?_, ?_⟩
  · rcases memS_putB.1 hx with rfl | hx
    · exact hl
    · exact h.mem x hx
  · have e0 := List.takeWhile_append_dropWhile (p := fun x => decide (absV x < absV l)) (l := c)
    have e1 : c.take (litAt c l) = c.takeWhile (fun x => decide (absV x < absV l)) := by
      have := congrArg (List.take (litAt c l)) e0
      rw [← this]; exact List.take_left' rfl
    have e2 : c.drop (litAt c l) = c.dropWhile (fun x => decide (absV x < absV l)) := by
      have := congrArg (List.drop (litAt c l)) e0
      rw [← this]; exact List.drop_left' rfl
    unfold putB
    rw [List.pairwise_append, List.pairwise_cons]
    have hd : ∀ y ∈ c.drop (litAt c l), absV l < absV y := by
      intro y hy
      have hne := hn y (List.mem_of_mem_drop hy)
      rw [e2] at hy
      have hp : (c.dropWhile (fun x => decide (absV x < absV l))).Pairwise AscS := by rw [← e2]; exact h.asc.drop
      cases hdw : c.dropWhile (fun x => decide (absV x < absV l)) with
      | nil => rw [hdw] at hy; cases hy
      | cons z t =>
        have hz : ¬ absV z < absV l := by
          have := List.head_dropWhile_not (fun x => decide (absV x < absV l)) (l := c) (by rw [hdw]; simp)
          simp only [hdw, List.head_cons] at this
          simpa using this
        rw [hdw] at hy hp
        rcases List.mem_cons.1 hy with rfl | hy
        · omega
        · have := (List.pairwise_cons.1 hp).1 y hy
          unfold AscS at this; omega
    have ht : ∀ y ∈ c.take (litAt c l), absV y < absV l := by
      intro y hy
      rw [e1] at hy
      simpa using List.all_eq_true.1 (List.all_takeWhile (p := fun x => decide (absV x < absV l)) (l := c)) y hy
    exact ⟨h.asc.take, ⟨hd, h.asc.drop⟩, fun a ha b hb => by
      rcases List.mem_cons.1 hb with rfl | hb
      · exact ht a ha
      · have := ht a ha; have := hd b hb; show absV a < absV b; omega⟩

def joinS (out : List Int) : List Int → Option (List Int)
  | [] => some out
  | l :: b => if hasI out (-l) then none else joinS (if hasI out l then out else putB out l) b
theorem joinS_spec : ∀ {b out : List Int}, GoodS out → GoodS b →
    (joinS out b = none ∧ ∃ l ∈ b, -l ∈ out) ∨ (∃ c, joinS out b = some c ∧ GoodS c ∧ (∀ x, x ∈ c ↔ x ∈ out ∨ x ∈ b) ∧ ∀ l ∈ b, -l ∉ out)
  | [], out, ho, _ => .inr ⟨out, rfl, ho, by simp, by simp⟩
  | l :: b, out, ho, hb => by
    have hl := hb.mem l List.mem_cons_self
    have hb2 : GoodS b := ⟨fun x hx => hb.mem x (List.mem_cons_of_mem _ hx), (List.pairwise_cons.1 hb.asc).2⟩
    have hlb : ∀ x ∈ b, absV l < absV x := (List.pairwise_cons.1 hb.asc).1
    unfold joinS
    by_cases hc : -l ∈ out
    · rw [if_pos (hasS_iff.2 hc)]
      exact .inl ⟨rfl, l, List.mem_cons_self, hc⟩
    · rw [if_neg (by rw [hasS_iff]; exact hc)]
      have hout : ∃ out', (if hasI out l then out else putB out l) = out' ∧ GoodS out' ∧ ∀ x, x ∈ out' ↔ x = l ∨ x ∈ out := by
        by_cases h : l ∈ out
        · rw [if_pos (hasS_iff.2 h)]
          exact ⟨_, rfl, ho, fun x => ⟨.inr, fun hx => by rcases hx with rfl | hx; exact h; exact hx⟩⟩
        · rw [if_neg (by rw [hasS_iff]; exact h)]
          refine ⟨_, rfl, ho.put hl fun y hy e => ?_, fun x => memS_putB⟩
          have hy6 := ho.mem y hy
          rw [hy6.abs, hl.abs] at e
          have : y = l ∨ y = -l := by
            have h1 := hy6; have h2 := hl
            unfold LitS at h1 h2
            split at e <;> split at e <;> omega
          rcases this with rfl | rfl
          · exact h hy
          · exact hc hy
      obtain ⟨out', he, hg, hm⟩ := hout
      rw [he]
      rcases joinS_spec hg hb2 with ⟨h1, x, hx, hx2⟩ | ⟨c, h1, h2, h3, h4⟩
      · refine .inl ⟨h1, x, List.mem_cons_of_mem _ hx, ?_⟩
        rcases (hm _).1 hx2 with e | e
        · exfalso
          have h5 := hlb x hx
          have h6 := hb.mem x (List.mem_cons_of_mem _ hx)
          rw [hl.abs, h6.abs] at h5
          unfold LitS at h6 hl
          split at h5 <;> split at h5 <;> omega
        · exact e
      · refine .inr ⟨c, h1, h2, fun x => ?_, fun x hx => ?_⟩
        · rw [h3, hm, List.mem_cons]
          exact ⟨fun h => by rcases h with (h | h) | h <;> simp [h], fun h => by rcases h with h | h | h <;> simp [h]⟩
        · rcases List.mem_cons.1 hx with rfl | hx
          · exact hc
          · exact fun h => h4 x hx ((hm _).2 (.inr h))
end Go.Proofs.YtnfjgebfmnpkbaaGreat
