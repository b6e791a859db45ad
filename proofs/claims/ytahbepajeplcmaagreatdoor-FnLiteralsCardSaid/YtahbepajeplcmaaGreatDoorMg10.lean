/- Lemmas and contracts for a law, put together out of several texts: LtH AsM LtI. -/
import Derived.Test.YtahbepajeplcmaaGreatDoorMg8
import Derived.Test.YtahbepajeplcmaaGreatDoorMg9
/- Contracts: drawn inputs of laws on literals and texts of clauses. -/
namespace Go.Proofs.YtahbepajeplcmaaGreatDoor
open Go.RowKit

def AddD (w : World) (e : Ending) (w' : World) : Prop := ∃ (vars l : Int) (D : Option Addr) (dc : Nat) (d : List Int), e = .returned (.tuple #[.int .i64 vars, .slice D d.length dc, .int .i64 l]) ∧ -1 ≤ vars ∧ vars ≤ 13 ∧ -14 ≤ l ∧ l ≤ 14 ∧ d.length ≤ 5 ∧ AllI d ∧ Sp w w' [Own 3 1 (.slice D d.length dc) d.length (d.map (.int .i64))]
def ClaD (w : World) (e : Ending) (w' : World) : Prop := ∃ (vars : Int) (D : Option Addr) (dc : Nat) (d : List Int), e = .returned (.tuple #[.int .i64 vars, .slice D d.length dc]) ∧ -1 ≤ vars ∧ vars ≤ 13 ∧ d.length ≤ 5 ∧ AllI d ∧ Sp w w' [Own 3 1 (.slice D d.length dc) d.length (d.map (.int .i64))]
def TxtD (w : World) (e : Ending) (w' : World) : Prop := ∃ (vars : Int) (s : ByteArray), e = .returned (.tuple #[.int .i64 vars, .string s]) ∧ -1 ≤ vars ∧ vars ≤ 13 ∧ s.size ≤ 10000 ∧ Below w.heap.size w w'

set_option maxRecDepth 100000 in
set_option maxHeartbeats 8000000 in
theorem drawAddLiteral_any (ca : Option Addr) (cl cc : Nat) (w : World) (hc : CodeOk w ca cl) (hs : cl ≤ 65536) : Calls Tryz.prog 20 #[.slice ca cl cc] w (AddD w) := by
  have S0 := (Sp.start w).cur_laid ca cl cc
  have hi := Lib.hid (S0.cur (A' := 0) (i := 0) rfl hc hs).1
  obtain ⟨gc, hgc⟩ : ∃ gc, w.heap.size = gc := ⟨_, rfl⟩
  rw [hgc] at S0 hi
  replace S0 := Lib.hid S0
  have hcH := Lib.hid hc
  clear hc
  go_enter Tryz.func20, Tryz.ntmps20
  go_wp2_with fail
  refine (cur_vars2 0 gc ca cl cc _ hi.out (by omega)).mono ?_
  rintro e w1 ⟨_, ⟨vars, hv0, hv1, rfl⟩, rfl, hi1, hc1⟩
  have S1 := Lib.hid ((S0.out.cur (A' := 10) (i := 0) rfl hcH.out hs).2 w1 (hi1.mono (by omega)) hc1)
  clear S0 hi hi1 hc1
  replace S1 : Hid (Sp w w1 [CurA 10 gc ca cl cc]) := S1
  have hcu := Lib.hid (S1.out.cur (A' := 10) (i := 0) rfl hcH.out hs).1
  go_wp2_with fail
  refine (cur_anyClause vars ⟨hv0, hv1⟩ _ gc ca cl cc _ hcu.out (by omega)).mono ?_
  rintro e w2 ⟨v, d, rfl, ho, hdl, hD, hi2, hc2⟩
  have S2 := S1.out.cs_call (row_cs hcu.out hi2 hc2 ho) hcH.out hs
  obtain ⟨D, dc, rfl⟩ := own_slice ho
  have hDH := Lib.hid hD
  replace S2 : Hid (Sp w w2 [Own 3 1 (.slice D d.length dc) d.length (d.map (.int .i64)), CurA (10 + 80) gc ca cl cc]) := S2
  clear S1 hcu hi2 hc2 ho hD
  have hcu := Lib.hid (S2.out.cur (A' := 90) (i := 1) rfl hcH.out hs).1
  go_wp2_with fail
  refine (cur_lit13 vars ⟨hv0, hv1⟩ _ gc ca cl cc _ hcu.out (by omega)).mono ?_
  rintro e w3 ⟨_, ⟨l, hl0, hl1, rfl⟩, rfl, hi3, hc3⟩
  have S3 := Lib.hid (((S2.out.cur (A' := 100) (i := 1) rfl hcH.out hs).2 w3 (hi3.mono (by omega)) hc3).pick (qs := [Own 3 1 (.slice D d.length dc) d.length (d.map (.int .i64))]) [0] rfl)
  clear S2 hcu hi3 hc3
  go_wp2_with fail
  exact bodyPost_ret (v := .tuple #[.int .i64 vars, .slice D d.length dc, .int .i64 l]) (by simp [results, Tryz.results20, go_sem]) rfl ⟨vars, l, D, dc, d, rfl, hv0, hv1, hl0, hl1, hdl, hDH.out, S3.out⟩

set_option maxRecDepth 100000 in
set_option maxHeartbeats 8000000 in
theorem drawRemoveVar_any (ca : Option Addr) (cl cc : Nat) (w : World) (hc : CodeOk w ca cl) (hs : cl ≤ 65536) : Calls Tryz.prog 28 #[.slice ca cl cc] w (AddD w) := by
  have S0 := (Sp.start w).cur_laid ca cl cc
  have hi := Lib.hid (S0.cur (A' := 0) (i := 0) rfl hc hs).1
  obtain ⟨gc, hgc⟩ : ∃ gc, w.heap.size = gc := ⟨_, rfl⟩
  rw [hgc] at S0 hi
  replace S0 := Lib.hid S0
  have hcH := Lib.hid hc
  clear hc
  go_enter Tryz.func28, Tryz.ntmps28
  go_wp2_with fail
  refine (cur_vars2 0 gc ca cl cc _ hi.out (by omega)).mono ?_
  rintro e w1 ⟨_, ⟨vars, hv0, hv1, rfl⟩, rfl, hi1, hc1⟩
  have S1 := Lib.hid ((S0.out.cur (A' := 10) (i := 0) rfl hcH.out hs).2 w1 (hi1.mono (by omega)) hc1)
  clear S0 hi hi1 hc1
  replace S1 : Hid (Sp w w1 [CurA 10 gc ca cl cc]) := S1
  have hcu := Lib.hid (S1.out.cur (A' := 10) (i := 0) rfl hcH.out hs).1
  go_wp2_with fail
  refine (cur_anyClause vars ⟨hv0, hv1⟩ _ gc ca cl cc _ hcu.out (by omega)).mono ?_
  rintro e w2 ⟨v, d, rfl, ho, hdl, hD, hi2, hc2⟩
  have S2 := S1.out.cs_call (row_cs hcu.out hi2 hc2 ho) hcH.out hs
  obtain ⟨D, dc, rfl⟩ := own_slice ho
  have hDH := Lib.hid hD
  replace S2 : Hid (Sp w w2 [Own 3 1 (.slice D d.length dc) d.length (d.map (.int .i64)), CurA (10 + 80) gc ca cl cc]) := S2
  have S5 := Lib.hid (S2.out.alloc (.cells #[.int .i64 1, .int .i64 2, .int .i64 3, .int .i64 1, .int .i64 2, .int .i64 0, .int .i64 (-1), .int .i64 13] 3))
  clear S1 hcu hi2 hc2 ho hD
  have hcu := Lib.hid (S5.out.cur (A' := 90) (i := 1) rfl hcH.out hs).1
  have hg : gc < w2.heap.size := (S2.out.cur (A' := 90) (i := 1) rfl hcH.out hs).1.lt
  have hcall := Lib.hid (cur_among (-14) 14 w2.heap.size 0 8 8 _ gc ca cl cc _ hcu.out (by omega) (by decide) (by decide) (ints_new (by simp) fun j hj => by
    match j, hj with
    | 0, _ => exact ⟨_, rfl, by omega, by omega⟩
    | 1, _ => exact ⟨_, rfl, by omega, by omega⟩
    | 2, _ => exact ⟨_, rfl, by omega, by omega⟩
    | 3, _ => exact ⟨_, rfl, by omega, by omega⟩
    | 4, _ => exact ⟨_, rfl, by omega, by omega⟩
    | 5, _ => exact ⟨_, rfl, by omega, by omega⟩
    | 6, _ => exact ⟨_, rfl, by omega, by omega⟩
    | 7, _ => exact ⟨_, rfl, by omega, by omega⟩) (by omega))
  clear S2 hcu hg
  go_wp2_with fail
  refine hcall.out.mono ?_
  rintro e w3 ⟨_, ⟨l, hl0, hl1, rfl⟩, rfl, hi3, hc3⟩
  have S3 := Lib.hid (((S5.out.cur (A' := 100) (i := 1) rfl hcH.out hs).2 w3 (hi3.mono (by omega)) hc3).pick (qs := [Own 3 1 (.slice D d.length dc) d.length (d.map (.int .i64))]) [0] rfl)
  clear S5 hcall hi3 hc3
  go_wp2_with fail
  exact bodyPost_ret (v := .tuple #[.int .i64 vars, .slice D d.length dc, .int .i64 l]) (by simp [results, Tryz.results28, go_sem]) rfl ⟨vars, l, D, dc, d, rfl, hv0, hv1, hl0, hl1, hdl, hDH.out, S3.out⟩

set_option maxRecDepth 100000 in
set_option maxHeartbeats 8000000 in
theorem drawIsClause_any (ca : Option Addr) (cl cc : Nat) (w : World) (hc : CodeOk w ca cl) (hs : cl ≤ 65536) : Calls Tryz.prog 98 #[.slice ca cl cc] w (ClaD w) := by
  have S0 := (Sp.start w).cur_laid ca cl cc
  have hi := Lib.hid (S0.cur (A' := 0) (i := 0) rfl hc hs).1
  obtain ⟨gc, hgc⟩ : ∃ gc, w.heap.size = gc := ⟨_, rfl⟩
  rw [hgc] at S0 hi
  replace S0 := Lib.hid S0
  have hcH := Lib.hid hc
  clear hc
  go_enter Tryz.func98, Tryz.ntmps98
  go_wp2_with fail
  refine (cur_vars2 0 gc ca cl cc _ hi.out (by omega)).mono ?_
  rintro e w1 ⟨_, ⟨vars, hv0, hv1, rfl⟩, rfl, hi1, hc1⟩
  have S1 := Lib.hid ((S0.out.cur (A' := 10) (i := 0) rfl hcH.out hs).2 w1 (hi1.mono (by omega)) hc1)
  clear S0 hi hi1 hc1
  replace S1 : Hid (Sp w w1 [CurA 10 gc ca cl cc]) := S1
  have hcu := Lib.hid (S1.out.cur (A' := 10) (i := 0) rfl hcH.out hs).1
  go_wp2_with fail
  refine (cur_anyClause vars ⟨hv0, hv1⟩ _ gc ca cl cc _ hcu.out (by omega)).mono ?_
  rintro e w2 ⟨v, d, rfl, ho, hdl, hD, hi2, hc2⟩
  have S2 := S1.out.cs_call (row_cs hcu.out hi2 hc2 ho) hcH.out hs
  obtain ⟨D, dc, rfl⟩ := own_slice ho
  have hDH := Lib.hid hD
  have S3 := Lib.hid (S2.pick (qs := [Own 3 1 (.slice D d.length dc) d.length (d.map (.int .i64))]) [0] rfl)
  clear S1 S2 hcu hi2 hc2 ho hD
  go_wp2_with fail
  exact bodyPost_ret (v := .tuple #[.int .i64 vars, .slice D d.length dc]) (by simp [results, Tryz.results98, go_sem]) rfl ⟨vars, D, dc, d, rfl, hv0, hv1, hdl, hDH.out, S3.out⟩

set_option maxHeartbeats 4000000 in
theorem drawClauseText_any (ca : Option Addr) (cl cc : Nat) (w : World) (hc : CodeOk w ca cl) (hs : cl ≤ 65536) : Calls Tryz.prog 34 #[.slice ca cl cc] w (ClaD w) := by
  have hcall := Lib.hid (drawIsClause_any ca cl cc w hc hs)
  clear hc
  go_enter Tryz.func34, Tryz.ntmps34
  go_wp2_with fail
  refine hcall.out.mono ?_
  rintro e w1 ⟨vars, D, dc, d, rfl, h0, h1, h2, h3, h4⟩
  have hR := Lib.hid (show ClaD w (.returned (.tuple #[.int .i64 vars, .slice D d.length dc])) w1 from ⟨vars, D, dc, d, rfl, h0, h1, h2, h3, h4⟩)
  clear hcall h0 h1 h2 h3 h4
  go_wp2_with fail
  exact bodyPost_ret (v := .tuple #[.int .i64 vars, .slice D d.length dc]) (by simp [results, Tryz.results34, go_sem]) rfl hR.out

theorem txt_size {c : List Int} (hc : ∀ l ∈ c, -1000000 ≤ l ∧ l ≤ 1000000) : (ms (txtC c)).size ≤ 15 * c.length + 4 := by
  rw [ms_size]
  by_cases h : c = []
  · rw [h]; decide
  · rw [txtC_ne h]; have := join_short h hc; omega

set_option maxRecDepth 100000 in
set_option maxHeartbeats 8000000 in
theorem drawParseClause_any (ca : Option Addr) (cl cc : Nat) (w : World) (hc : CodeOk w ca cl) (hs : cl ≤ 65536) : Calls Tryz.prog 30 #[.slice ca cl cc] w (TxtD w) := by
  have S0 := (Sp.start w).cur_laid ca cl cc
  have hi := Lib.hid (S0.cur (A' := 0) (i := 0) rfl hc hs).1
  obtain ⟨gc, hgc⟩ : ∃ gc, w.heap.size = gc := ⟨_, rfl⟩
  rw [hgc] at S0 hi
  replace S0 := Lib.hid S0
  have hcH := Lib.hid hc
  clear hc
  go_enter Tryz.func30, Tryz.ntmps30
  go_wp2_with fail
  refine (cur_vars2 0 gc ca cl cc _ hi.out (by omega)).mono ?_
  rintro e w1 ⟨_, ⟨vars, hv0, hv1, rfl⟩, rfl, hi1, hc1⟩
  have S1 := Lib.hid ((S0.out.cur (A' := 10) (i := 0) rfl hcH.out hs).2 w1 (hi1.mono (by omega)) hc1)
  clear S0 hi hi1 hc1
  replace S1 : Hid (Sp w w1 [CurA 10 gc ca cl cc]) := S1
  have hcu := Lib.hid (S1.out.cur (A' := 10) (i := 0) rfl hcH.out hs).1
  have hle := Lib.hid (fun W => l1LeastS_any vars 12 W)
  have hmo := Lib.hid (fun W => l1MostS_any 1 (leastS vars 12) W)
  have hn : -1 ≤ mostS 1 (leastS vars 12) ∧ mostS 1 (leastS vars 12) ≤ 13 := by unfold mostS leastS; split <;> split <;> omega
  generalize mostS 1 (leastS vars 12) = n at *
  generalize leastS vars 12 = m at *
  go_wp2_with fail
  refine (hle.out _).mono ?_
  rintro e w2 ⟨rfl, rfl⟩
  go_wp2_with fail
  refine (hmo.out _).mono ?_
  rintro e w2 ⟨rfl, rfl⟩
  clear hle hmo
  go_wp2_with fail
  refine (cur_clause n hn _ gc ca cl cc _ hcu.out (by omega)).mono ?_
  rintro e w2 ⟨v, d, rfl, ho, hdl, hD, hi2, hc2⟩
  have S2 := S1.out.cs_call (row_cs hcu.out hi2 hc2 ho) hcH.out hs
  obtain ⟨D, dc, rfl⟩ := own_slice ho
  obtain ⟨A', c', e', hIY⟩ := ints_own ho (fun x hx => by have := hD x hx; unfold I64; omega)
  cases e'
  have htx := Lib.hid (l2Text_any d (fun x hx => by have := hD x hx; omega) (by omega) D dc w2 hIY)
  have hsz : (ms (txtC d)).size ≤ 1000 := by
    have := txt_size (c := d) (fun x hx => by have := hD x hx; omega); omega
  generalize ms (txtC d) = s at *
  replace S2 : Hid (Sp w w2 [Own 3 1 (.slice D d.length dc) d.length (d.map (.int .i64)), CurA (10 + 60) gc ca cl cc]) := S2
  clear S1 hcu hi2 hc2 ho hD hIY
  go_wp2_with fail
  refine htx.out.mono ?_
  rintro e w3 ⟨rfl, hb3⟩
  have S3 := Lib.hid ((S2.out.grow hb3).pick (qs := [CurA 70 gc ca cl cc]) [1] rfl)
  clear S2 htx hb3
  have hcu := Lib.hid (S3.out.cur (A' := 70) (i := 0) rfl hcH.out hs).1
  go_wp2_with fail
  refine (cur_one 4 _ _ ca cl cc _ hcu.out (by omega) (by decide)).mono ?_
  rintro e w4 ⟨_, ⟨q, rfl⟩, rfl, hi4, hc4⟩
  have S4 : Hid (Sp w w4 [CurA 80 gc ca cl cc]) := Lib.hid ((S3.out.cur (A' := 80) (i := 0) rfl hcH.out hs).2 w4 (hi4.mono (by omega)) hc4)
  clear S3 hcu hi4 hc4
  have hcu := Lib.hid (S4.out.cur (A' := 80) (i := 0) rfl hcH.out hs).1
  cases q
  · have hB := Lib.hid S4.out.below
    clear S4 hcu
    go_wp2_with fail
    go_ret2
    exact ⟨vars, s, rfl, hv0, hv1, by omega, hB.out⟩
  · go_wp2_with fail
    refine (cur_spoilt s ⟨#[32, 45, 48, 49, 50, 57, 110, 111, 110, 101]⟩ _ _ ca cl cc _ hcu.out (by omega) (by omega) (by decide) (by decide)).mono ?_
    rintro e w5 ⟨_, ⟨t, ht, rfl⟩, rfl, hi5, hc5⟩
    have hB := Lib.hid ((S4.out.cur (A' := 90) (i := 0) rfl hcH.out hs).2 w5 (hi5.mono (by omega)) hc5).below
    have ht2 : t.size ≤ 10000 := by unfold SizeLe at ht; omega
    clear S4 hcu hi5 hc5 ht
    go_wp2_with fail
    go_ret2
    exact ⟨vars, t, rfl, hv0, hv1, ht2, hB.out⟩
end Go.Proofs.YtahbepajeplcmaaGreatDoor

/- Plain facts: what the law of assignments asks. -/
namespace Go.Proofs.YtahbepajeplcmaaGreatDoor
open Go.RowKit

theorem lit_ok {vars l : Int} (hv : 0 ≤ vars ∧ vars ≤ 12) (h0 : l ≠ 0) (h1 : -vars ≤ l) (h2 : l ≤ vars) : litB vars l = true := by
  unfold litB inB
  rw [negV_small (by unfold I64; omega) (by omega)]
  simp only [Bool.and_eq_true, decide_eq_true_eq, bne_iff_ne]
  omega
theorem good_clause {vars : Int} {c : List Int} (hv : 0 ≤ vars ∧ vars ≤ 12) (g : GoodS c) (h : ∀ l ∈ c, -vars ≤ l ∧ l ≤ vars) : clauseB vars c = true := by
  unfold clauseB
  rw [Bool.and_eq_true, inB_true]
  refine ⟨hv, ?_⟩
  unfold cOkTo
  rw [List.all_eq_true]
  intro i hi
  have hi := List.mem_range.1 hi
  unfold cOk
  have e1 : c.getD i 0 = c[i] := by rw [List.getD_eq_getElem?_getD, List.getElem?_eq_getElem hi]; rfl
  rw [Bool.and_eq_true, e1]
  have hm := List.getElem_mem hi
  refine ⟨lit_ok hv (g.mem _ hm).1 (h _ hm).1 (h _ hm).2, ?_⟩
  cases i with
  | zero => rfl
  | succ i =>
    have e2 : c.getD (i + 1 - 1) 0 = c[i] := by rw [Nat.add_sub_cancel, List.getD_eq_getElem?_getD, List.getElem?_eq_getElem (by omega)]; rfl
    rw [e2]
    have := List.pairwise_iff_getElem.1 g.asc i (i + 1) (by omega) hi (by omega)
    unfold AscS at this
    rw [decide_eq_true this]
    simp
theorem tot_good {n b : Nat} (hn : n ≤ 12) : GoodS (totB n b) := by
  refine ⟨tot_lit hn, ?_⟩
  rw [List.pairwise_iff_getElem]
  intro i j hi hj hij
  have l1 := tot_lit hn _ (List.getElem_mem hi)
  have l2 := tot_lit hn _ (List.getElem_mem hj)
  unfold AscS
  rw [absV_lit l1, absV_lit l2]
  have key : ∀ k (h : k < (totB n b).length), (totB n b)[k].natAbs = k + 1 := fun k h => by
    simp only [totB, List.getElem_map, List.getElem_range]
    unfold totI
    split <;> omega
  rw [key, key]
  omega
theorem tot_clause {n b : Nat} (hn : n ≤ 12) : clauseB n (totB n b) = true := by
  refine good_clause (by omega) (tot_good hn) fun l hl => ?_
  obtain ⟨i, hi, rfl⟩ := List.mem_map.1 hl
  have := List.mem_range.1 hi
  unfold totI
  split <;> omega
theorem joinS_mem {a b c : List Int} (ga : GoodS a) (gb : GoodS b) (h : joinS a b = some c) : GoodS c ∧ ∀ x, x ∈ c ↔ x ∈ a ∨ x ∈ b := by
  rcases joinS_spec ga gb with ⟨h1, -⟩ | ⟨c', h1, h2, h3, -⟩
  · rw [h1] at h; cases h
  · rw [h1] at h
    cases h
    exact ⟨h2, h3⟩
theorem merge_facts {vars : Int} {a b c : List Int} (h : mergeR vars a b = some c) : clauseB vars a = true ∧ clauseB vars b = true ∧ clauseB vars c = true ∧ a.all (hasI c) = true ∧ b.all (hasI c) = true := by
  unfold mergeR at h
  split at h
  · rename_i hq
    rw [Bool.and_eq_true] at hq
    obtain ⟨gc, hm⟩ := joinS_mem (good_s hq.1) (good_s hq.2) h
    have pa := clause_parts hq.1
    have pb := clause_parts hq.2
    refine ⟨hq.1, hq.2, good_clause pa.1 gc fun l hl => ?_, ?_, ?_⟩
    · rcases (hm l).1 hl with h | h
      · exact (pa.2.1 l h).2
      · exact (pb.2.1 l h).2
    · rw [List.all_eq_true]
      exact fun x hx => hasS_iff.2 ((hm x).2 (.inl hx))
    · rw [List.all_eq_true]
      exact fun x hx => hasS_iff.2 ((hm x).2 (.inr hx))
  · cases h
theorem set_facts {vars : Int} {a c : List Int} {l : Int} (h : setR vars a l = some c) : clauseB vars c = true ∧ inB (absV l) 1 vars = true ∧ hasI (withoutB c (absV l)) l = false ∧ hasI c l = true ∧ absV l = if l < 0 then -l else l := by
  unfold setR at h
  split at h
  · rename_i hq
    rw [Bool.and_eq_true] at hq
    cases h
    have pa := clause_parts hq.1
    have hl := lit_small pa.1 hq.2
    have hls : LitS l := by unfold LitS; omega
    refine ⟨good_clause pa.1 (set_good (good_s hq.1) hls) fun x hx => ?_, ?_, ?_, ?_, hls.abs⟩
    · unfold setS at hx
      rcases memS_putB.1 hx with rfl | hx
      · exact hl.2
      · exact (pa.2.1 x (memS_without.1 hx).1).2
    · rw [inB_true, hls.abs]
      split <;> omega
    · rw [hasS_not]
      intro hx
      exact (memS_without.1 hx).2 rfl
    · rw [hasS_iff]
      unfold setS
      exact memS_putB.2 (.inl rfl)
  · cases h
theorem mergeR_len {vars : Int} {a b : List Int} (la : a.length ≤ 13) (lb : b.length ≤ 13) : ((mergeR vars a b).getD []).length ≤ 1000 := by
  cases h : mergeR vars a b with
  | none => simp
  | some c =>
    have := (merge_facts h).2.2.1
    exact (clause_s this).2
theorem setR_len {vars : Int} {a : List Int} {l : Int} : ((setR vars a l).getD []).length ≤ 1000 := by
  cases h : setR vars a l with
  | none => simp
  | some c => exact (clause_s (set_facts h).1).2
end Go.Proofs.YtahbepajeplcmaaGreatDoor

/- Plain facts: what the law of literals asks. -/
namespace Go.Proofs.YtahbepajeplcmaaGreatDoor
open Go.RowKit

theorem pc_out {L : List Int} {ok : Bool} {w w' : World} {e : Ending} (h : PCPost (L, ok) w e w') : ∃ B c, e = .returned (.tuple #[.slice B L.length c, .bool ok]) ∧ Sp w w' [Own 3 1 (.slice B L.length c) L.length (L.map (.int .i64))] := h
theorem ia_out {L : List Int} {ok : Bool} {w w' : World} {e : Ending} (h : IAns w (L, ok).2 (L, ok).1 e w') : IAns w ok L e w' := h
theorem add_facts {vars : Int} {c L : List Int} {l : Int} (h : addOk vars c l = true) (hj : joinS c [l] = some L) :
    clauseB vars c = true ∧ clauseB vars L = true ∧ hasI L l = true ∧ c.all (hasI L) = true ∧ inB (absV l) 1 vars = true ∧ withoutB L (absV l) = withoutB c (absV l) ∧ hasI (withoutB c (absV l)) l = false ∧ absV l = if l < 0 then -l else l := by
  unfold addOk at h
  rw [Bool.and_eq_true] at h
  have pa := clause_parts h.1
  have hl := lit_small pa.1 h.2
  have hls : LitS l := (lit_vals pa.1 h.2).1
  obtain ⟨gL, hm⟩ := joinS_mem (good_s h.1) (lit_one hls) hj
  refine ⟨h.1, good_clause pa.1 gL fun x hx => ?_, ?_, ?_, ?_, ?_, ?_, hls.abs⟩
  · rcases (hm x).1 hx with hx | hx
    · exact (pa.2.1 x hx).2
    · obtain rfl : x = l := by simpa using hx
      exact hl.2
  · exact hasS_iff.2 ((hm l).2 (.inr (by simp)))
  · rw [List.all_eq_true]
    exact fun x hx => hasS_iff.2 ((hm x).2 (.inl hx))
  · rw [inB_true, hls.abs]
    split <;> omega
  · refine (without_good gL _).ext (without_good (good_s h.1) _) fun x => ?_
    rw [memS_without, memS_without]
    constructor
    · rintro ⟨h1, h2⟩
      refine ⟨?_, h2⟩
      rcases (hm x).1 h1 with hx | hx
      · exact hx
      · obtain rfl : x = l := by simpa using hx
        exact absurd rfl h2
    · rintro ⟨h1, h2⟩
      exact ⟨(hm x).2 (.inl h1), h2⟩
  · rw [hasS_not]
    intro hx
    exact (memS_without.1 hx).2 rfl
theorem add_gen (vars : Int) (c : List Int) (l : Int) : ∃ (ok : Bool) (L : List Int), addR vars c l = (L, ok) ∧ (∀ y ∈ L, I64 y) ∧ L.length ≤ 1000 ∧ (ok = true →
    clauseB vars c = true ∧ clauseB vars L = true ∧ hasI L l = true ∧ c.all (hasI L) = true ∧ inB (absV l) 1 vars = true ∧ withoutB L (absV l) = withoutB c (absV l) ∧ hasI (withoutB c (absV l)) l = false ∧ absV l = if l < 0 then -l else l) := by
  cases h : addOk vars c l
  · exact ⟨false, [], addR_no h, by simp, by simp, by simp⟩
  · cases hj : joinS c [l] with
    | none => exact ⟨false, [], (addR_yes h).trans (by rw [hj]; rfl), by simp, by simp, by simp⟩
    | some L =>
      have hf := add_facts h hj
      exact ⟨true, L, (addR_yes h).trans (by rw [hj]; rfl), fun y hy => ((good_s hf.2.1).mem y hy).i64, (clause_s hf.2.1).2, fun _ => hf⟩
theorem rem_ok {vars : Int} {c : List Int} {v : Int} (h1 : clauseB vars c = true) (h2 : inB v 1 vars = true) : remR vars c v = (withoutB c v, true) := remR_yes (by unfold remOk; rw [h1, h2]; rfl)
theorem rem_gen (vars : Int) (c : List Int) (v : Int) : ∃ (ok : Bool) (L : List Int), remR vars c v = (L, ok) ∧ (∀ y ∈ L, I64 y) ∧ L.length ≤ 1000 ∧ (ok = true → ∀ x ∈ c, (x == v) = true ∨ (x == v) = false ∧ (x == -v) = true ∨ (x == v) = false ∧ (x == -v) = false ∧ hasI L x = true) := by
  cases h : remOk vars c v
  · exact ⟨false, [], remR_no h, by simp, by simp, by simp⟩
  · refine ⟨true, withoutB c v, remR_yes h, ?_⟩
    unfold remOk at h
    rw [Bool.and_eq_true] at h
    have gc := good_s h.1
    have hl := (clause_s h.1).2
    have hw : (withoutB c v).length ≤ c.length := List.length_filter_le _ _
    refine ⟨fun y hy => ((without_good gc _).mem y hy).i64, by omega, fun _ x hx => ?_⟩
    have hX := gc.mem x hx
    by_cases h1 : x = v
    · exact .inl (by rw [h1]; simp)
    · have h1' : (x == v) = false := by simpa using h1
      by_cases h2 : x = -v
      · exact .inr (.inl ⟨h1', by rw [h2]; simp⟩)
      · refine .inr (.inr ⟨h1', by simpa using h2, hasS_iff.2 (memS_without.2 ⟨hx, ?_⟩)⟩)
        rw [hX.abs]
        have := inB_true.1 h.2
        split <;> omega
theorem par_gen (vars : Int) (s : List UInt8) : ∃ (ok : Bool) (L : List Int), parC vars s = (L, ok) ∧ (∀ y ∈ L, I64 y) ∧ L.length ≤ 1000 ∧ (ok = true → clauseB vars L = true ∧ ctA vars L = s) := by
  obtain ⟨⟨L, ok⟩, h⟩ : ∃ r, parC vars s = r := ⟨_, rfl⟩
  cases ok
  · have := par_no h
    subst this
    exact ⟨false, [], h, by simp, by simp, by simp⟩
  · obtain ⟨h1, h2⟩ := text_par h
    exact ⟨true, L, h, fun y hy => ((good_s h2).mem y hy).i64, (clause_s h2).2, fun _ => ⟨h2, (if_pos h2).trans h1⟩⟩
theorem ct_size {vars : Int} {c : List Int} (h : clauseB vars c = true) : (ms (ctA vars c)).size ≤ 900000 := by
  unfold ctA
  rw [if_pos h]
  have h1 := txt_size (c := c) (fun x hx => by have := clause_small h x hx; omega)
  have h2 := (clause_s h).2
  omega
theorem ct_par {vars : Int} {c : List Int} (h : clauseB vars c = true) : parC vars (bl (ms (ctA vars c))) = (c, true) := by
  unfold ctA
  rw [if_pos h, bl_ms]
  exact par_text h
end Go.Proofs.YtahbepajeplcmaaGreatDoor
