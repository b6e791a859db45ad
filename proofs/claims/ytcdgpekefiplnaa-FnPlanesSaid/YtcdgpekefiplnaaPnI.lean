/- Contracts: the inequality of a clause, in the program and in the reference. -/
import Derived.Test.YtcdgpekefiplnaaPnH
namespace Go.Proofs.Ytcdgpekefiplnaa
open Go.RowKit

set_option maxRecDepth 100000 in
theorem mk_ints (k : Nat) (hk : k ≤ 1000000) (x : Int) (hx : x = k) (w : World) :
    (Instr.makeSlice 24 (.int .i64 x) (.int .i64 x)).run Try.prog w = .ok (.slice (some ⟨w.heap.size, 0, none⟩) k k) (w.alloc (.cells (madeCells #[.int .i64 0] k) 3)) := by
  obtain ⟨i, hi, h1, h2, h3⟩ : ∃ i, Try.prog.info? 3 = some i ∧ i.zero = some (.int .i64 0) ∧ i.size = 1 ∧ i.bytes = 8 := ⟨_, rfl, by kernel_rfl, by kernel_rfl, by kernel_rfl⟩
  subst hx
  have := run_make w 24 3 i (.int .i64 0) Try.underlying24 hi h1 .i64 .i64 (k : Int) (k : Int) (by omega) (by omega) (by rw [h3]; omega) (by omega)
  rw [h2] at this
  simpa [Value.cells] using this
theorem set_map (xs : List Int) (m : Nat) (y : Int) : (xs.map (Value.int .i64)).toArray.setIfInBounds m (.int .i64 y) = ((xs.set m y).map (Value.int .i64)).toArray := by
  rw [List.setIfInBounds_toArray, List.map_set]
theorem set_box (u v v' : Value) : (#[u, v] : Array Value).setIfInBounds 1 v' = #[u, v'] := rfl
theorem arr_at {xs : List Int} {m : Nat} (hm : m < xs.length) : ((xs.map (Value.int .i64)).toArray)[m]? = some (.int .i64 (xs.getD m 0)) := by
  simp [List.getD_eq_getElem?_getD, hm]
def clStep (q : List Int × Int) (l : Int) : List Int × Int := if 0 < l then (q.1.set (l.natAbs - 1) 1, q.2) else (q.1.set (l.natAbs - 1) (-1), q.2 - 1)
theorem clQ_succ (n : Nat) {c : List Int} {k : Nat} (hk : k < c.length) : clQ n (c.take (k + 1)) = clStep (clQ n (c.take k)) c[k] := by
  unfold clQ
  rw [List.take_succ_eq_append_getElem hk, List.foldl_append]
  rfl
theorem clStep_facts {n : Nat} {q : List Int × Int} {l : Int} {j : Nat} (h1 : q.1.length = n) (h2 : 1 - (j : Int) ≤ q.2 ∧ q.2 ≤ 1) (h3 : ∀ x ∈ q.1, -1 ≤ x ∧ x ≤ 1) :
    (clStep q l).1.length = n ∧ (1 - ((j + 1 : Nat) : Int) ≤ (clStep q l).2 ∧ (clStep q l).2 ≤ 1) ∧ ∀ x ∈ (clStep q l).1, -1 ≤ x ∧ x ≤ 1 := by
  unfold clStep
  split
  · refine ⟨by simpa using h1, by simp only; omega, fun x hx => ?_⟩
    rcases List.mem_or_eq_of_mem_set hx with h | h
    · exact h3 x h
    · omega
  · refine ⟨by simpa using h1, by simp only; omega, fun x hx => ?_⟩
    rcases List.mem_or_eq_of_mem_set hx with h | h
    · exact h3 x h
    · omega
theorem fold_facts {n : Nat} : ∀ (c : List Int) (q : List Int × Int) (j : Nat), q.1.length = n → (1 - (j : Int) ≤ q.2 ∧ q.2 ≤ 1) → (∀ x ∈ q.1, -1 ≤ x ∧ x ≤ 1) →
    (c.foldl clStep q).1.length = n ∧ (1 - ((j + c.length : Nat) : Int) ≤ (c.foldl clStep q).2 ∧ (c.foldl clStep q).2 ≤ 1) ∧ ∀ x ∈ (c.foldl clStep q).1, -1 ≤ x ∧ x ≤ 1
  | [], q, j, h1, h2, h3 => ⟨h1, by simpa using h2, h3⟩
  | l :: c, q, j, h1, h2, h3 => by
    obtain ⟨g1, g2, g3⟩ := clStep_facts (l := l) h1 h2 h3
    have h := fold_facts c (clStep q l) (j + 1) g1 g2 g3
    rw [List.foldl_cons, List.length_cons, show j + (c.length + 1) = j + 1 + c.length by omega]
    exact h
theorem clQ_facts (n : Nat) (c : List Int) : (clQ n c).1.length = n ∧ (1 - (c.length : Int) ≤ (clQ n c).2 ∧ (clQ n c).2 ≤ 1) ∧ (∀ x ∈ (clQ n c).1, -1 ≤ x ∧ x ≤ 1) ∧ ∀ x ∈ (clQ n c).1, I64 x := by
  have h := fold_facts (n := n) c (List.replicate n 0, 1) 0 (by simp) (by simp) (fun x hx => by rw [List.eq_of_mem_replicate hx]; omega)
  rw [Nat.zero_add] at h
  exact ⟨h.1, h.2.1, h.2.2, fun x hx => by have := h.2.2 x hx; unfold I64; omega⟩

set_option maxRecDepth 100000 in
set_option maxHeartbeats 4000000 in
theorem planeOf_any (n : Nat) (hn : n ≤ 12) (c : List Int) (hc : ∀ l ∈ c, l ≠ 0 ∧ -(n : Int) ≤ l ∧ l ≤ n) (hl : c.length ≤ 1000) (A : Option Addr) (cap : Nat) (w : World) (hx : IntsAt w A c) :
    Calls Try.prog 42 #[.int .i64 n, .slice A c.length cap] w (QPost w (clQ n c).2 (clQ n c).1) := by
  have hmk := fun W => mk_ints n (by omega) (n : Int) rfl W
  obtain ⟨M, hM⟩ : ∃ M, madeCells #[.int .i64 0] n = M := ⟨_, rfl⟩
  rw [hM] at hmk
  have S0 := ((Sp.start w).alloc_box #[.slice none 0 0, .int .i64 0] 26).alloc_box M 3 |>.alloc_box #[.slice (some ⟨w.heap.size + 1, 0, none⟩) n n, .int .i64 1] 26
  simp only [World.size_alloc] at S0
  have hmade : M = ((List.replicate n (0 : Int)).map (Value.int .i64)).toArray := by
    rw [← hM]
    apply Array.ext'
    rw [toList_madeCells_one]
    simp
  have hq0 : clQ n (c.take 0) = (List.replicate n 0, 1) := rfl
  have hS : ∀ W, Sp w W [Box (w.heap.size + 1 + 1) 26 #[.slice (some ⟨w.heap.size + 1, 0, none⟩) n n, .int .i64 1], Box (w.heap.size + 1) 3 M, Box w.heap.size 26 #[.slice none 0 0, .int .i64 0]] → Sp w W [Box (w.heap.size + 1 + 1) 26 #[.slice (some ⟨w.heap.size + 1, 0, none⟩) n n, .int .i64 (clQ n (c.take 0)).2], Box (w.heap.size + 1) 3 (((clQ n (c.take 0)).1.map (Value.int .i64)).toArray), Box w.heap.size 26 #[.slice none 0 0, .int .i64 0]] := by
    intro W h
    rw [hq0]
    dsimp only
    rw [← hmade]
    exact h
  have S1 := Lib.hid (hS _ S0)
  have hI := Lib.hid hx
  have hcH := Lib.hid hc
  have hq := Lib.hid (fun k => clQ_facts n (c.take k))
  clear hx hc S0 hq0 hmade hM hS
  go_enter Try.func42, Try.ntmps42
  go_wp2_with fail
  go_loopw [13] (fun i wr => ∃ k : Nat, k ≤ c.length ∧ i = .int .i64 k ∧ Hid (Sp w wr [Box (w.heap.size + 1 + 1) 26 #[.slice (some ⟨w.heap.size + 1, 0, none⟩) n n, .int .i64 (clQ n (c.take k)).2], Box (w.heap.size + 1) 3 (((clQ n (c.take k)).1.map (Value.int .i64)).toArray), Box w.heap.size 26 #[.slice none 0 0, .int .i64 0]])) (fun i _ => c.length - (intOf i).toNat)
  case atStart => exact ⟨0, Nat.zero_le _, rfl, S1⟩
  case round =>
    obtain ⟨k, hk, rfl, HS⟩ := hrel
    clear S1 hmk
    by_cases hlt : k < c.length
    · obtain ⟨b, off, rfl, m0⟩ := (hI.out.grow HS.out.below).at_ k hlt
      have hsn := clQ_succ n hlt
      have hcx := hcH.out _ (List.getElem_mem hlt)
      obtain ⟨f1, f2, f3, f4⟩ := hq.out k
      rw [List.length_take] at f2
      generalize clQ n (c.take k) = q at *
      generalize c[k] = x at *
      obtain ⟨ys, z⟩ := q
      obtain ⟨m, hm⟩ : ∃ m, x.natAbs = m + 1 := ⟨x.natAbs - 1, by omega⟩
      dsimp only at f1 f2 f3 HS
      by_cases hpos : 0 < x
      · have hsN : Hid (clQ n (c.take (k + 1)) = (ys.set m 1, z)) := by rw [hsn]; unfold clStep; rw [if_pos hpos, hm]; rfl
        obtain rfl : x = (m : Int) + 1 := by omega
        have hw1 : IntKind.i64.wrap ((m : Int) + 1 - 1) = (m : Int) := by rw [IntWalk.i64_in _ (by omega)]; omega
        have hw5 : IntKind.i64.wrap (m : Int) = (m : Int) := IntWalk.i64_in _ (by omega)
        have hw6 : IntKind.i64.wrap ((m : Int) + 1) = (m : Int) + 1 := IntWalk.i64_in _ (by omega)
        have hm0 : (0 : Int) ≤ m := by omega
        have hmn : (m : Int) < n := by omega
        have hgt : 0 < (m : Int) + 1 := by omega
        have u0 : wr.cell? ⟨w.heap.size + 1, m, none⟩ = some (.int .i64 (ys.getD m 0)) := HS.out.cell (i := 1) rfl (o := m) (arr_at (by omega))
        have v0 := HS.out.frozen (i := 1) rfl m
        have d0 := HS.out.cell (i := 0) rfl (o := 0) rfl
        have S1 := HS.out.store (i := 1) rfl m (.int .i64 1)
        simp only [List.set_cons_succ, List.set_cons_zero, set_map, set_box] at S1
        replace S1 := Lib.hid S1
        clear HS
        go_wp2_with fail
        go_roundw
        case rel => exact ⟨k + 1, by omega, by go_num, by rw [hsN.out]; exact S1⟩
        case measure => simp [intOf]; omega
      · have hsN : Hid (clQ n (c.take (k + 1)) = (ys.set m (-1), z - 1)) := by rw [hsn]; unfold clStep; rw [if_neg hpos, hm]; rfl
        obtain rfl : x = -((m : Int) + 1) := by omega
        have hw0 : IntKind.i64.wrap (- -((m : Int) + 1)) = (m : Int) + 1 := by rw [IntWalk.i64_in _ (by omega)]; omega
        have hw1 : IntKind.i64.wrap ((m : Int) + 1 - 1) = (m : Int) := by rw [IntWalk.i64_in _ (by omega)]; omega
        have hw2 : IntKind.i64.wrap (z - 1) = z - 1 := IntWalk.i64_in _ (by omega)
        have hw5 : IntKind.i64.wrap (m : Int) = (m : Int) := IntWalk.i64_in _ (by omega)
        have hw6 : IntKind.i64.wrap ((m : Int) + 1) = (m : Int) + 1 := IntWalk.i64_in _ (by omega)
        have hm0 : (0 : Int) ≤ m := by omega
        have hmn : (m : Int) < n := by omega
        have hgt : ¬ 0 < -((m : Int) + 1) := by omega
        have u0 : wr.cell? ⟨w.heap.size + 1, m, none⟩ = some (.int .i64 (ys.getD m 0)) := HS.out.cell (i := 1) rfl (o := m) (arr_at (by omega))
        have v0 := HS.out.frozen (i := 1) rfl m
        have d0 := HS.out.cell (i := 0) rfl (o := 0) rfl
        have e1 := (HS.out.store (i := 1) rfl m (.int .i64 (-1))).cell (i := 0) rfl (o := 1) rfl
        have g1 := (HS.out.store (i := 1) rfl m (.int .i64 (-1))).frozen (i := 0) rfl 1
        have S1 := HS.out.store (i := 1) rfl m (.int .i64 (-1))
        replace S1 := S1.store (i := 0) rfl 1 (.int .i64 (z - 1))
        simp only [List.set_cons_succ, List.set_cons_zero, set_map, set_box] at S1
        replace S1 := Lib.hid S1
        clear HS
        go_wp2_with fail
        go_roundw
        case rel => exact ⟨k + 1, by omega, by go_num, by rw [hsN.out]; exact S1⟩
        case measure => simp [intOf]; omega
    · have hge : ¬ (k : Int) < (c.length : Int) := by omega
      obtain rfl : k = c.length := by omega
      rw [List.take_length] at HS
      obtain ⟨f1, f2, f3, f4⟩ := hq.out c.length
      rw [List.take_length] at f1 f2 f3 f4
      generalize hqq : clQ n c = q at *
      obtain ⟨ys, z⟩ := q
      dsimp only at f1 f2 f3 f4 HS
      have d0 := HS.out.cell (i := 0) rfl (o := 0) rfl
      have d1 := HS.out.cell (i := 0) rfl (o := 1) rfl
      have r0 := HS.out.cell (i := 2) rfl (o := 0) rfl
      have r1 := HS.out.cell (i := 2) rfl (o := 1) rfl
      have p0 := HS.out.frozen (i := 2) rfl 0
      have p1 := HS.out.frozen (i := 2) rfl 1
      have SF := (HS.out.store (i := 2) rfl 0 (.slice (some ⟨w.heap.size + 1, 0, none⟩) n n)).store (i := 2) rfl 1 (.int .i64 z)
      have j0 := SF.cell (i := 2) rfl (o := 0) rfl
      have j1 := SF.cell (i := 2) rfl (o := 1) rfl
      have hIy : Hid (IntsAt _ (some ⟨w.heap.size + 1, 0, none⟩) ys) := ⟨fun j hj => ⟨_, _, rfl, by
        have h := SF.cell (i := 1) rfl (o := j) (arr_at (xs := ys) hj)
        rw [List.getD_eq_getElem?_getD, List.getElem?_eq_getElem hj] at h
        rw [Nat.zero_add]
        exact h⟩, f4⟩
      have hB := SF.below
      clear HS SF hq
      go_wp2_with fail
      exact bodyPost_ret (v := .agg #[.slice (some ⟨w.heap.size + 1, 0, none⟩) n n, .int .i64 z]) (by simp [results, Try.results42, go_sem, j0, j1]) rfl (by unfold QPost; (try rw [hqq]); exact ⟨_, n, by rw [f1], hIy.out, fun a ha => by cases ha; exact Nat.le_succ _, hB⟩)

set_option maxRecDepth 100000 in
set_option maxHeartbeats 4000000 in
theorem l16OfClause_any (n : Nat) (hn : n ≤ 12) (c : List Int) (hc : ∀ l ∈ c, l ≠ 0 ∧ -(n : Int) ≤ l ∧ l ≤ n) (hl : c.length ≤ 1000) (A : Option Addr) (cap : Nat) (w : World) (hx : IntsAt w A c) :
    Calls Try.prog 44 #[.int .i64 n, .slice A c.length cap] w (QPost w (clQ n c).2 (clQ n c).1) := by
  have hmk := fun W => mk_ints n (by omega) (n : Int) rfl W
  obtain ⟨M, hM⟩ : ∃ M, madeCells #[.int .i64 0] n = M := ⟨_, rfl⟩
  rw [hM] at hmk
  have S0 := ((Sp.start w).alloc_box #[.slice none 0 0, .int .i64 0] 26).alloc_box M 3 |>.alloc_box #[.slice (some ⟨w.heap.size + 1, 0, none⟩) n n, .int .i64 1] 26
  simp only [World.size_alloc] at S0
  have hmade : M = ((List.replicate n (0 : Int)).map (Value.int .i64)).toArray := by
    rw [← hM]
    apply Array.ext'
    rw [toList_madeCells_one]
    simp
  have hq0 : clQ n (c.take 0) = (List.replicate n 0, 1) := rfl
  have hS : ∀ W, Sp w W [Box (w.heap.size + 1 + 1) 26 #[.slice (some ⟨w.heap.size + 1, 0, none⟩) n n, .int .i64 1], Box (w.heap.size + 1) 3 M, Box w.heap.size 26 #[.slice none 0 0, .int .i64 0]] → Sp w W [Box (w.heap.size + 1 + 1) 26 #[.slice (some ⟨w.heap.size + 1, 0, none⟩) n n, .int .i64 (clQ n (c.take 0)).2], Box (w.heap.size + 1) 3 (((clQ n (c.take 0)).1.map (Value.int .i64)).toArray), Box w.heap.size 26 #[.slice none 0 0, .int .i64 0]] := by
    intro W h
    rw [hq0]
    dsimp only
    rw [← hmade]
    exact h
  have S1 := Lib.hid (hS _ S0)
  have hI := Lib.hid hx
  have hcH := Lib.hid hc
  have hq := Lib.hid (fun k => clQ_facts n (c.take k))
  clear hx hc S0 hq0 hmade hM hS
  go_enter Try.func44, Try.ntmps44
  go_wp2_with fail
  go_loopw [6] (fun i wr => ∃ k : Nat, k ≤ c.length ∧ i = .int .i64 k ∧ Hid (Sp w wr [Box (w.heap.size + 1 + 1) 26 #[.slice (some ⟨w.heap.size + 1, 0, none⟩) n n, .int .i64 (clQ n (c.take k)).2], Box (w.heap.size + 1) 3 (((clQ n (c.take k)).1.map (Value.int .i64)).toArray), Box w.heap.size 26 #[.slice none 0 0, .int .i64 0]])) (fun i _ => c.length - (intOf i).toNat)
  case atStart => exact ⟨0, Nat.zero_le _, rfl, S1⟩
  case round =>
    obtain ⟨k, hk, rfl, HS⟩ := hrel
    clear S1 hmk
    by_cases hlt : k < c.length
    · obtain ⟨b, off, rfl, m0⟩ := (hI.out.grow HS.out.below).at_ k hlt
      have hsn := clQ_succ n hlt
      have hcx := hcH.out _ (List.getElem_mem hlt)
      obtain ⟨f1, f2, f3, f4⟩ := hq.out k
      rw [List.length_take] at f2
      generalize clQ n (c.take k) = q at *
      generalize c[k] = x at *
      obtain ⟨ys, z⟩ := q
      obtain ⟨m, hm⟩ : ∃ m, x.natAbs = m + 1 := ⟨x.natAbs - 1, by omega⟩
      dsimp only at f1 f2 f3 HS
      by_cases hpos : 0 < x
      · have hsN : Hid (clQ n (c.take (k + 1)) = (ys.set m 1, z)) := by rw [hsn]; unfold clStep; rw [if_pos hpos, hm]; rfl
        obtain rfl : x = (m : Int) + 1 := by omega
        have hw1 : IntKind.i64.wrap ((m : Int) + 1 - 1) = (m : Int) := by rw [IntWalk.i64_in _ (by omega)]; omega
        have hw5 : IntKind.i64.wrap (m : Int) = (m : Int) := IntWalk.i64_in _ (by omega)
        have hw6 : IntKind.i64.wrap ((m : Int) + 1) = (m : Int) + 1 := IntWalk.i64_in _ (by omega)
        have hm0 : (0 : Int) ≤ m := by omega
        have hmn : (m : Int) < n := by omega
        have hgt : 0 < (m : Int) + 1 := by omega
        have u0 : wr.cell? ⟨w.heap.size + 1, m, none⟩ = some (.int .i64 (ys.getD m 0)) := HS.out.cell (i := 1) rfl (o := m) (arr_at (by omega))
        have v0 := HS.out.frozen (i := 1) rfl m
        have d0 := HS.out.cell (i := 0) rfl (o := 0) rfl
        have HD := Lib.hid HS.out.drew
        have S1 := HD.out.store (i := 1) rfl m (.int .i64 1)
        simp only [List.set_cons_succ, List.set_cons_zero, set_map, set_box] at S1
        replace S1 := Lib.hid S1
        clear HS HD
        go_wp2_with fail
        refine wp_region_tail_lit (S := (fun w' => w'.cell? ⟨w.heap.size + 1 + 1, 0, none⟩ = some (.slice (some ⟨w.heap.size + 1, 0, none⟩) n n) ∧ w'.cell? ⟨b, off + k, none⟩ = some (.int .i64 ((m : Int) + 1)))) 8 [false, false, false, false, false, false, false, false, false] (by kernel_rfl) (by kernel_rfl) (by kernel_rfl) ?_ ?_
        · exact ⟨d0, m0⟩
        intro hSc
        (refine walkT_take (i := 0) (v := ?_) rfl (by kernel_rfl) (by decide) (by kernel_rfl) (by kernel_rfl) (fun _ _ _ h => h) (Or.inl ⟨by rfl, ?_⟩) (by assumption) ?_; rotate_left; (focus (intro w hSw; (try dsimp only at hSw); go_simp; (try with_reducible rfl); done)); (try simp only [put_rules]))
        (refine walkT_take (i := 1) (v := ?_) rfl (by kernel_rfl) (by decide) (by kernel_rfl) (by kernel_rfl) (fun _ _ _ h => h) (Or.inl ⟨by rfl, ?_⟩) (by assumption) ?_; rotate_left; (focus (intro w hSw; (try dsimp only at hSw); go_simp; (try with_reducible rfl); done)); (try simp only [put_rules]))
        (refine walkT_take (i := 2) (v := ?_) rfl (by kernel_rfl) (by decide) (by kernel_rfl) (by kernel_rfl) (fun _ _ _ h => h) (Or.inl ⟨by rfl, ?_⟩) (by assumption) ?_; rotate_left; (focus (intro w hSw; (try dsimp only at hSw); go_simp; (try with_reducible rfl); done)); (try simp only [put_rules]))
        (refine walkT_take (i := 3) (v := ?_) rfl (by kernel_rfl) (by decide) (by kernel_rfl) (by kernel_rfl) (fun _ _ _ h => h) (Or.inl ⟨by rfl, ?_⟩) (by assumption) ?_; rotate_left; (focus (intro w hSw; (try dsimp only at hSw); go_simp; (try with_reducible rfl); done)); (try simp only [put_rules]))
        (refine walkT_take (i := 4) (v := ?_) rfl (by kernel_rfl) (by decide) (by kernel_rfl) (by kernel_rfl) (fun _ _ _ h => h) (Or.inl ⟨by rfl, ?_⟩) (by assumption) ?_; rotate_left; (focus (intro w hSw; (try dsimp only at hSw); go_simp; (try with_reducible rfl); done)); (try simp only [put_rules]))
        (refine walkT_take (i := 5) (v := ?_) rfl (by kernel_rfl) (by decide) (by kernel_rfl) (by kernel_rfl) (fun _ _ _ h => h) (Or.inl ⟨by rfl, ?_⟩) (by assumption) ?_; rotate_left; (focus (intro w hSw; (try dsimp only at hSw); go_simp; (try with_reducible rfl); done)); (try simp only [put_rules]))
        (refine walkT_take (i := 6) (v := ?_) rfl (by kernel_rfl) (by decide) (by kernel_rfl) (by kernel_rfl) (fun _ _ _ h => h) (Or.inl ⟨by rfl, ?_⟩) (by assumption) ?_; rotate_left; (focus (intro w hSw; (try dsimp only at hSw); go_simp; (try with_reducible rfl); done)); (try simp only [put_rules]))
        (refine walkT_take (i := 7) (v := ?_) rfl (by kernel_rfl) (by decide) (by kernel_rfl) (by kernel_rfl) (fun _ _ _ h => h) (Or.inl ⟨by rfl, ?_⟩) (by assumption) ?_; rotate_left; (focus (intro w hSw; (try dsimp only at hSw); go_simp; (try with_reducible rfl); done)); (try simp only [put_rules]))
        (refine walkT_done (by kernel_rfl) ?_)
        simp only [List.drop_succ_cons, List.drop_zero]
        go_wp2_with fail
        go_roundw
        case rel => exact ⟨k + 1, by omega, by go_num, by rw [hsN.out]; exact S1⟩
        case measure => simp [intOf]; omega
      · have hsN : Hid (clQ n (c.take (k + 1)) = (ys.set m (-1), z - 1)) := by rw [hsn]; unfold clStep; rw [if_neg hpos, hm]; rfl
        obtain rfl : x = -((m : Int) + 1) := by omega
        have hw0 : IntKind.i64.wrap (- -((m : Int) + 1)) = (m : Int) + 1 := by rw [IntWalk.i64_in _ (by omega)]; omega
        have hw1 : IntKind.i64.wrap ((m : Int) + 1 - 1) = (m : Int) := by rw [IntWalk.i64_in _ (by omega)]; omega
        have hw2 : IntKind.i64.wrap (z - 1) = z - 1 := IntWalk.i64_in _ (by omega)
        have hw5 : IntKind.i64.wrap (m : Int) = (m : Int) := IntWalk.i64_in _ (by omega)
        have hw6 : IntKind.i64.wrap ((m : Int) + 1) = (m : Int) + 1 := IntWalk.i64_in _ (by omega)
        have hm0 : (0 : Int) ≤ m := by omega
        have hmn : (m : Int) < n := by omega
        have hgt : ¬ 0 < -((m : Int) + 1) := by omega
        have u0 : wr.cell? ⟨w.heap.size + 1, m, none⟩ = some (.int .i64 (ys.getD m 0)) := HS.out.cell (i := 1) rfl (o := m) (arr_at (by omega))
        have v0 := HS.out.frozen (i := 1) rfl m
        have d0 := HS.out.cell (i := 0) rfl (o := 0) rfl
        have HD := Lib.hid HS.out.drew
        have e1 := (HS.out.store (i := 1) rfl m (.int .i64 (-1))).cell (i := 0) rfl (o := 1) rfl
        have g1 := (HS.out.store (i := 1) rfl m (.int .i64 (-1))).frozen (i := 0) rfl 1
        have S1 := HD.out.store (i := 1) rfl m (.int .i64 (-1))
        replace S1 := S1.store (i := 0) rfl 1 (.int .i64 (z - 1))
        simp only [List.set_cons_succ, List.set_cons_zero, set_map, set_box] at S1
        replace S1 := Lib.hid S1
        clear HS HD
        go_wp2_with fail
        refine wp_region_tail_lit (S := (fun w' => w'.cell? ⟨w.heap.size + 1 + 1, 0, none⟩ = some (.slice (some ⟨w.heap.size + 1, 0, none⟩) n n) ∧ w'.cell? ⟨b, off + k, none⟩ = some (.int .i64 (-((m : Int) + 1))))) 9 [false, false, false, false, false, false, false, false, false, false] (by kernel_rfl) (by kernel_rfl) (by kernel_rfl) ?_ ?_
        · exact ⟨d0, m0⟩
        intro hSc
        (refine walkT_take (i := 0) (v := ?_) rfl (by kernel_rfl) (by decide) (by kernel_rfl) (by kernel_rfl) (fun _ _ _ h => h) (Or.inl ⟨by rfl, ?_⟩) (by assumption) ?_; rotate_left; (focus (intro w hSw; (try dsimp only at hSw); go_simp; (try with_reducible rfl); done)); (try simp only [put_rules]))
        (refine walkT_take (i := 1) (v := ?_) rfl (by kernel_rfl) (by decide) (by kernel_rfl) (by kernel_rfl) (fun _ _ _ h => h) (Or.inl ⟨by rfl, ?_⟩) (by assumption) ?_; rotate_left; (focus (intro w hSw; (try dsimp only at hSw); go_simp; (try with_reducible rfl); done)); (try simp only [put_rules]))
        (refine walkT_take (i := 2) (v := ?_) rfl (by kernel_rfl) (by decide) (by kernel_rfl) (by kernel_rfl) (fun _ _ _ h => h) (Or.inl ⟨by rfl, ?_⟩) (by assumption) ?_; rotate_left; (focus (intro w hSw; (try dsimp only at hSw); go_simp; (try with_reducible rfl); done)); (try simp only [put_rules]))
        (refine walkT_take (i := 3) (v := ?_) rfl (by kernel_rfl) (by decide) (by kernel_rfl) (by kernel_rfl) (fun _ _ _ h => h) (Or.inl ⟨by rfl, ?_⟩) (by assumption) ?_; rotate_left; (focus (intro w hSw; (try dsimp only at hSw); go_simp; (try with_reducible rfl); done)); (try simp only [put_rules]))
        (refine walkT_take (i := 4) (v := ?_) rfl (by kernel_rfl) (by decide) (by kernel_rfl) (by kernel_rfl) (fun _ _ _ h => h) (Or.inl ⟨by rfl, ?_⟩) (by assumption) ?_; rotate_left; (focus (intro w hSw; (try dsimp only at hSw); go_simp; (try with_reducible rfl); done)); (try simp only [put_rules]))
        (refine walkT_take (i := 5) (v := ?_) rfl (by kernel_rfl) (by decide) (by kernel_rfl) (by kernel_rfl) (fun _ _ _ h => h) (Or.inl ⟨by rfl, ?_⟩) (by assumption) ?_; rotate_left; (focus (intro w hSw; (try dsimp only at hSw); go_simp; (try with_reducible rfl); done)); (try simp only [put_rules]))
        (refine walkT_take (i := 6) (v := ?_) rfl (by kernel_rfl) (by decide) (by kernel_rfl) (by kernel_rfl) (fun _ _ _ h => h) (Or.inl ⟨by rfl, ?_⟩) (by assumption) ?_; rotate_left; (focus (intro w hSw; (try dsimp only at hSw); go_simp; (try with_reducible rfl); done)); (try simp only [put_rules]))
        (refine walkT_take (i := 7) (v := ?_) rfl (by kernel_rfl) (by decide) (by kernel_rfl) (by kernel_rfl) (fun _ _ _ h => h) (Or.inl ⟨by rfl, ?_⟩) (by assumption) ?_; rotate_left; (focus (intro w hSw; (try dsimp only at hSw); go_simp; (try with_reducible rfl); done)); (try simp only [put_rules]))
        (refine walkT_take (i := 8) (v := ?_) rfl (by kernel_rfl) (by decide) (by kernel_rfl) (by kernel_rfl) (fun _ _ _ h => h) (Or.inl ⟨by rfl, ?_⟩) (by assumption) ?_; rotate_left; (focus (intro w hSw; (try dsimp only at hSw); go_simp; (try with_reducible rfl); done)); (try simp only [put_rules]))
        (refine walkT_done (by kernel_rfl) ?_)
        simp only [List.drop_succ_cons, List.drop_zero]
        go_wp2_with fail
        go_roundw
        case rel => exact ⟨k + 1, by omega, by go_num, by rw [hsN.out]; exact S1⟩
        case measure => simp [intOf]; omega
    · have hge : ¬ (k : Int) < (c.length : Int) := by omega
      obtain rfl : k = c.length := by omega
      rw [List.take_length] at HS
      obtain ⟨f1, f2, f3, f4⟩ := hq.out c.length
      rw [List.take_length] at f1 f2 f3 f4
      generalize hqq : clQ n c = q at *
      obtain ⟨ys, z⟩ := q
      dsimp only at f1 f2 f3 f4 HS
      have d0 := HS.out.cell (i := 0) rfl (o := 0) rfl
      have d1 := HS.out.cell (i := 0) rfl (o := 1) rfl
      have r0 := HS.out.cell (i := 2) rfl (o := 0) rfl
      have r1 := HS.out.cell (i := 2) rfl (o := 1) rfl
      have p0 := HS.out.frozen (i := 2) rfl 0
      have p1 := HS.out.frozen (i := 2) rfl 1
      have SF := (HS.out.store (i := 2) rfl 0 (.slice (some ⟨w.heap.size + 1, 0, none⟩) n n)).store (i := 2) rfl 1 (.int .i64 z)
      have j0 := SF.cell (i := 2) rfl (o := 0) rfl
      have j1 := SF.cell (i := 2) rfl (o := 1) rfl
      have hIy : Hid (IntsAt _ (some ⟨w.heap.size + 1, 0, none⟩) ys) := ⟨fun j hj => ⟨_, _, rfl, by
        have h := SF.cell (i := 1) rfl (o := j) (arr_at (xs := ys) hj)
        rw [List.getD_eq_getElem?_getD, List.getElem?_eq_getElem hj] at h
        rw [Nat.zero_add]
        exact h⟩, f4⟩
      have hB := SF.below
      clear HS SF hq
      go_wp2_with fail
      exact bodyPost_ret (v := .agg #[.slice (some ⟨w.heap.size + 1, 0, none⟩) n n, .int .i64 z]) (by simp [results, Try.results44, go_sem, j0, j1]) rfl (by unfold QPost; (try rw [hqq]); exact ⟨_, n, by rw [f1], hIy.out, fun a ha => by cases ha; exact Nat.le_succ _, hB⟩)

end Go.Proofs.Ytcdgpekefiplnaa
