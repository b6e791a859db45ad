/- Lemmas and contracts for a law, put together out of several texts: PgS PgL PgO PgM PgN PgJ PgK. -/
import Derived.Test.YtnfjgebfmnpkbaaGreatMg10
import Derived.Test.YtnfjgebfmnpkbaaGreatMg8
import Derived.Test.YtnfjgebfmnpkbaaGreatMg6
import Derived.Test.YtnfjgebfmnpkbaaGreatMg4
import Derived.Test.YtnfjgebfmnpkbaaGreatMg9
/- Contracts: the draws of FnPebblingFormulas. -/
namespace Go.Proofs.YtnfjgebfmnpkbaaGreat
open Go.RowKit

set_option maxRecDepth 100000 in
set_option maxHeartbeats 4000000 in
theorem cur_node (B : Option Addr) (n c A g : Nat) (hn : n ≤ 20) (ca : Option Addr) (cl cc : Nat) (w : World) (h : CurIs A g ca cl cc w) (hA : A ≤ 10000) :
    Calls Tryz.prog 36 #[.pointer (some ⟨g, 0, none⟩), .agg #[.slice B n c]] w (CurPost (IntIn (-1) 30) (A + 6) g ca cl cc w) := by
  have hg := h.lt
  have S0 := Lib.hid ((CS.start h).alloc_box #[.slice B n c] 26)
  have c0 := S0.out.cell (i := 0) rfl (o := 0) rfl
  go_enter Tryz.func36, Tryz.ntmps36
  go_wp2_with fail
  refine wp_region_held_lit (S := (fun w' => w'.cell? ⟨w.heap.size, 0, none⟩ = some (.slice B n c))) 14 [false, false, false, false, false, false, false, false, false, false, false, false, false, false] (by kernel_rfl) (by kernel_rfl) (by kernel_rfl) ?_ ?_
  · exact c0
  intro hSc
  (refine wpAnyH_take (i := 0) (v := ?_) rfl (by kernel_rfl) (by kernel_rfl) (by kernel_rfl) (fun _ _ _ h => h) (Or.inl ⟨by rfl, ?_⟩) (by assumption) ?_; rotate_left; (focus (intro w hSw; (try dsimp only at hSw); go_simp; (try with_reducible rfl); done)); (try simp only [put_rules]))
  (refine wpAnyH_take (i := 1) (v := ?_) rfl (by kernel_rfl) (by kernel_rfl) (by kernel_rfl) (fun _ _ _ h => h) (Or.inl ⟨by rfl, ?_⟩) (by assumption) ?_; rotate_left; (focus (intro w hSw; (try dsimp only at hSw); go_simp; (try with_reducible rfl); done)); (try simp only [put_rules]))
  (refine wpAnyH_take (i := 2) (v := ?_) rfl (by kernel_rfl) (by kernel_rfl) (by kernel_rfl) (fun _ _ _ h => h) (Or.inl ⟨by rfl, ?_⟩) (by assumption) ?_; rotate_left; (focus (intro w hSw; (try dsimp only at hSw); go_simp; (try with_reducible rfl); done)); (try simp only [put_rules]))
  (refine wpAnyH_take (i := 3) (v := ?_) rfl (by kernel_rfl) (by kernel_rfl) (by kernel_rfl) (fun _ _ _ h => h) (Or.inl ⟨by rfl, ?_⟩) (by assumption) ?_; rotate_left; (focus (intro w hSw; (try dsimp only at hSw); go_simp; (try with_reducible rfl); done)); (try simp only [put_rules]))
  (refine wpAnyH_take (i := 4) (v := ?_) rfl (by kernel_rfl) (by kernel_rfl) (by kernel_rfl) (fun _ _ _ h => h) (Or.inl ⟨by rfl, ?_⟩) (by assumption) ?_; rotate_left; (focus (intro w hSw; (try dsimp only at hSw); go_simp; (try with_reducible rfl); done)); (try simp only [put_rules]))
  (refine wpAnyH_take (i := 9) (v := ?_) rfl (by kernel_rfl) (by kernel_rfl) (by kernel_rfl) (fun _ _ _ h => h) (Or.inl ⟨by rfl, ?_⟩) (by assumption) ?_; rotate_left; (focus (intro w hSw; (try dsimp only at hSw); go_simp; (try with_reducible rfl); done)); (try simp only [put_rules]))
  (refine wpAnyH_ready (rs := [5]) (by kernel_rfl) (by simp) ?_; refine AllReadyH.cons rfl (fun K hK => ?_) AllReadyH.nil)
  go_simp
  go_at_call 51
  have S1 := S0.out.drew
  have hcall := Lib.hid (cur_pick_at (lo := 0) (hi := 23) (n := 24) S1.cur (by omega) (by omega) (by omega) (by omega) (by omega))
  refine hcall.out.mono ?_
  rintro e w1 ⟨_, ⟨x, hx0, hx1, rfl⟩, rfl, hi1, hc1⟩
  have S2 := Lib.hid (S1.turn hi1 hc1)
  clear hcall S0 S1 hi1 hc1 hSc c0
  obtain ⟨k, hk, hkx⟩ : ∃ k : Nat, k ≤ 1 ∧ x.tdiv 23 = (k : Int) := ⟨(x / 23).toNat, by omega, by rw [Int.tdiv_eq_ediv_of_nonneg hx0]; omega⟩
  have hkw : IntKind.i64.wrap (k : Int) = k := IntWalk.i64_in _ (by omega)
  obtain ⟨m, hm, hm21⟩ : ∃ m : Int, IntKind.i64.wrap ((n : Int) + (k : Int)) = m ∧ m ≤ 21 := ⟨(n : Int) + k, IntWalk.i64_in _ (by omega), by omega⟩
  go_wp2_with fail
  refine hK.out _ _ (S2.out.cell (i := 0) rfl (o := 0) rfl) (fun hS2 => ?_)
  clear hK
  (try simp only [put_rules])
  (refine wpAnyH_take (i := 6) (v := ?_) rfl (by kernel_rfl) (by kernel_rfl) (by kernel_rfl) (fun _ _ _ h => h) (Or.inl ⟨by rfl, ?_⟩) (by assumption) ?_; rotate_left; (focus (intro w hSw; (try dsimp only at hSw); go_simp; (try with_reducible rfl); done)); (try simp only [put_rules]))
  (refine wpAnyH_take (i := 7) (v := ?_) rfl (by kernel_rfl) (by kernel_rfl) (by kernel_rfl) (fun _ _ _ h => h) (Or.inl ⟨by rfl, ?_⟩) (by assumption) ?_; rotate_left; (focus (intro w hSw; (try dsimp only at hSw); go_simp; (try with_reducible rfl); done)); (try simp only [put_rules]))
  replace hm := Lib.hid hm
  replace hkx := Lib.hid hkx
  (refine wpAnyH_ready (rs := [8]) (by kernel_rfl) (by simp) ?_; refine AllReadyH.cons rfl (fun K hK => ?_) AllReadyH.nil)
  go_simp
  go_at_call 51
  have hcall := Lib.hid (cur_pick_at (lo := 0) (hi := 20) (n := m) S2.out.cur (by omega) (by omega) (by omega) (by omega) (by omega))
  refine hcall.out.mono ?_
  rintro e w2 ⟨_, ⟨z, hz0, hz1, rfl⟩, rfl, hi2, hc2⟩
  have S3 := Lib.hid (S2.out.turn hi2 hc2)
  clear hcall S2 hi2 hc2 hS2
  go_wp2_with fail
  refine hK.out _ _ (S3.out.cell (i := 0) rfl (o := 0) rfl) (fun hS2 => ?_)
  clear hK
  (try simp only [put_rules])
  (refine wpAnyH_ready (rs := [10]) (by kernel_rfl) (by simp) ?_; refine AllReadyH.cons rfl (fun K hK => ?_) AllReadyH.nil)
  go_simp
  go_at_call 51
  have hcall := Lib.hid (cur_pick_at (lo := 0) (hi := 39) (n := 40) S3.out.cur (by omega) (by omega) (by omega) (by omega) (by omega))
  refine hcall.out.mono ?_
  rintro e w3 ⟨_, ⟨y, hy0, hy1, rfl⟩, rfl, hi3, hc3⟩
  have S4 := Lib.hid (S3.out.turn hi3 hc3)
  clear hcall S3 hi3 hc3 hS2
  obtain ⟨q, hq, hqx⟩ : ∃ q : Nat, q ≤ 1 ∧ y.tdiv 39 = (q : Int) := ⟨(y / 39).toNat, by omega, by rw [Int.tdiv_eq_ediv_of_nonneg hy0]; omega⟩
  have hqw : IntKind.i64.wrap (q : Int) = q := IntWalk.i64_in _ (by omega)
  obtain ⟨r, hr, hr0⟩ : ∃ r : Int, IntKind.i64.wrap (z - (q : Int)) = r ∧ -1 ≤ r ∧ r ≤ 30 := ⟨z - q, IntWalk.i64_in _ (by omega), by omega⟩
  go_wp2_with fail
  refine hK.out _ _ (S4.out.cell (i := 0) rfl (o := 0) rfl) (fun hS2 => ?_)
  clear hK
  (try simp only [put_rules])
  (refine wpAnyH_take (i := 11) (v := ?_) rfl (by kernel_rfl) (by kernel_rfl) (by kernel_rfl) (fun _ _ _ h => h) (Or.inl ⟨by rfl, ?_⟩) (by assumption) ?_; rotate_left; (focus (intro w hSw; (try dsimp only at hSw); go_simp; (try with_reducible rfl); done)); (try simp only [put_rules]))
  (refine wpAnyH_take (i := 12) (v := ?_) rfl (by kernel_rfl) (by kernel_rfl) (by kernel_rfl) (fun _ _ _ h => h) (Or.inl ⟨by rfl, ?_⟩) (by assumption) ?_; rotate_left; (focus (intro w hSw; (try dsimp only at hSw); go_simp; (try with_reducible rfl); done)); (try simp only [put_rules]))
  (refine wpAnyH_take (i := 13) (v := ?_) rfl (by kernel_rfl) (by kernel_rfl) (by kernel_rfl) (fun _ _ _ h => h) (Or.inl ⟨by rfl, ?_⟩) (by assumption) ?_; rotate_left; (focus (intro w hSw; (try dsimp only at hSw); go_simp; (try with_reducible rfl); done)); (try simp only [put_rules]))
  (refine wpAnyH_done (by kernel_rfl) ?_ _)
  have hfin := Lib.hid (And.intro (S4.out.cur.mono (A' := A + 6) (by omega)) S4.out.chg)
  clear S4
  go_wp2_with fail
  go_ret
  exact ⟨_, ⟨r, hr0.1, hr0.2, rfl⟩, rfl, hfin.out.1, hfin.out.2⟩

/-- Some lists of numbers, in new memory, as a graph. -/
def DagQ (w : World) (e : Ending) (w' : World) : Prop := ∃ (B : Option Addr) (c : Nat) (L : List (List Int)), e = .returned (.agg #[.slice B L.length c]) ∧ StayC w w' B L ∧ (L.length ≤ 20 ∧ ∀ l ∈ L, l.length ≤ 4) ∧ Below w.heap.size w w'

set_option maxRecDepth 100000 in
set_option maxHeartbeats 4000000 in
theorem drawIsDag_any (ca : Option Addr) (cl cc : Nat) (w : World) (hc : CodeOk w ca cl) (hs : cl ≤ 65536) :
    Calls Tryz.prog 22 #[.slice ca cl cc] w (DagQ w) := by
  have S0 := (Sp.start w).alloc_box #[.slice none 0 0] 26
  have hcur := seCur_new (cc := cc) (hc.grow S0.below) hs
  simp only [World.size_alloc] at hcur
  replace hcur := Lib.hid hcur
  have S1 := S0.alloc_box #[.slice ca cl cc, .int .i64 0, .int .u64 0] 62
  simp only [World.size_alloc] at S1
  replace S1 := Lib.hid S1
  clear hc S0
  go_enter Tryz.func22, Tryz.ntmps22
  go_wp2_with fail
  have hsz : Hid (((w.alloc (.cells #[.slice none 0 0] 26)).alloc (.cells #[.slice ca cl cc, .int .i64 0, .int .u64 0] 62)).heap.size = w.heap.size + 1 + 1) := by unfold Hid; simp
  generalize (w.alloc (.cells #[.slice none 0 0] 26)).alloc (.cells #[.slice ca cl cc, .int .i64 0, .int .u64 0] 62) = wc at *
  refine (cur_dag 0 _ ca cl cc _ hcur.out (by omega)).mono ?_
  rintro e w3 ⟨B, c, L, rfl, h1, h2, -, h4⟩
  have hbx := S1.out.box (i := 1) rfl
  have hr : w3.heap[w.heap.size]? = wc.heap[w.heap.size]? := h4.block _ hbx.2.1 (by simp)
  have f0 : w3.frozen? ⟨w.heap.size, 0, none⟩ = false := by simp [World.frozen?, hr, hbx.2.2]
  have e0 : w3.cell? ⟨w.heap.size, 0, none⟩ = some (.slice none 0 0) := by simp [World.cell?, hr, hbx.2.2]
  have j0 : (w3.setCell ⟨w.heap.size, 0, none⟩ (.slice B L.length c)).cell? ⟨w.heap.size, 0, none⟩ = some (.slice B L.length c) := by simp [World.cell?, World.setCell, Array.getElem?_modify, hr, hbx.2.2]
  have hB : Below w.heap.size w (w3.setCell ⟨w.heap.size, 0, none⟩ (.slice B L.length c)) := bst (S1.out.below.trans (h4.below S1.out.below.size (by simp))) (Nat.le_refl _) _
  have hfin := Lib.hid (And.intro (show StayC w (w3.setCell ⟨w.heap.size, 0, none⟩ (.slice B L.length c)) B L from fun W hW => h1 W fun k hk hk3 => by
    have hk2 : w.heap.size + 1 + 1 ≤ k := by have := hsz.out; omega
    rw [hW k (by omega) (by rw [World.size_setCell]; exact hk3)]
    exact Below.heap_setCell _ _ _ _ (show k ≠ w.heap.size by omega)) (And.intro h2 hB))
  clear hcur S1 h1 h2 h4 hbx hr hsz hB
  go_wp2_with fail
  exact bodyPost_ret (v := .agg #[.slice B L.length c]) (by simp [results, Tryz.results22, go_sem, j0]) rfl ⟨B, c, L, rfl, hfin.out⟩

set_option maxRecDepth 100000 in
set_option maxHeartbeats 4000000 in
theorem drawPebbling_any (ca : Option Addr) (cl cc : Nat) (w : World) (hc : CodeOk w ca cl) (hs : cl ≤ 65536) :
    Calls Tryz.prog 5 #[.slice ca cl cc] w (DagQ w) := by
  have S0 := (Sp.start w).alloc_box #[.slice none 0 0] 26
  have h0 := Lib.hid (drawIsDag_any ca cl cc _ (hc.grow S0.below) hs)
  replace S0 := Lib.hid S0
  have hsz : Hid ((w.alloc (.cells #[.slice none 0 0] 26)).heap.size = w.heap.size + 1) := by unfold Hid; simp
  clear hc
  go_enter Tryz.func5, Tryz.ntmps5
  go_wp2_with fail
  generalize w.alloc (.cells #[.slice none 0 0] 26) = wc at *
  refine h0.out.mono ?_
  rintro e w3 ⟨B, c, L, rfl, h1, h2, h4⟩
  have S1 := S0.out.grow h4
  have f0 := S1.frozen (i := 0) rfl 0
  have e0 := S1.cell (i := 0) rfl (o := 0) rfl
  have S2 := S1.store (i := 0) rfl 0 (.slice B L.length c)
  have j0 := S2.cell (i := 0) rfl (o := 0) rfl
  have hfin := Lib.hid (And.intro (show StayC w (w3.setCell ⟨w.heap.size, 0, none⟩ (.slice B L.length c)) B L from fun W hW => h1 W fun k hk hk3 => by
    have hk2 : w.heap.size + 1 ≤ k := by have := hsz.out; omega
    rw [hW k (by omega) (by rw [World.size_setCell]; exact hk3)]
    exact Below.heap_setCell _ _ _ _ (show k ≠ w.heap.size by omega)) (And.intro h2 S2.below))
  clear h0 S0 S1 S2 h1 h2 h4 hsz
  go_wp2_with fail
  exact bodyPost_ret (v := .agg #[.slice B L.length c]) (by simp [results, Tryz.results5, go_sem, j0]) rfl ⟨B, c, L, rfl, hfin.out⟩

/-- A graph and a number. -/
def DagN (w : World) (e : Ending) (w' : World) : Prop := ∃ (B : Option Addr) (c : Nat) (L : List (List Int)) (x : Int), e = .returned (.tuple #[.agg #[.slice B L.length c], .int .i64 x]) ∧ StayC w w' B L ∧ (L.length ≤ 20 ∧ ∀ l ∈ L, l.length ≤ 4) ∧ Below w.heap.size w w'
set_option maxRecDepth 100000 in
set_option maxHeartbeats 4000000 in
theorem drawNodesUnder_any (ca : Option Addr) (cl cc : Nat) (w : World) (hc : CodeOk w ca cl) (hs : cl ≤ 65536) :
    Calls Tryz.prog 16 #[.slice ca cl cc] w (DagN w) := by
  have S0 := (Sp.start w).alloc_box #[.slice none 0 0] 26
  have hcur := seCur_new (cc := cc) (hc.grow S0.below) hs
  simp only [World.size_alloc] at hcur
  have S1 := S0.alloc_box #[.slice ca cl cc, .int .i64 0, .int .u64 0] 62
  simp only [World.size_alloc] at S1
  have hbx := S1.box (i := 1) rfl
  have hB1 := Lib.hid S1.below
  have hsz : Hid (((w.alloc (.cells #[.slice none 0 0] 26)).alloc (.cells #[.slice ca cl cc, .int .i64 0, .int .u64 0] 62)).heap.size = w.heap.size + 1 + 1) := by unfold Hid; simp
  replace hcur := Lib.hid hcur
  replace hbx := Lib.hid hbx
  clear hc S0 S1
  go_enter Tryz.func16, Tryz.ntmps16
  go_wp2_with fail
  generalize (w.alloc (.cells #[.slice none 0 0] 26)).alloc (.cells #[.slice ca cl cc, .int .i64 0, .int .u64 0] 62) = wc at *
  refine (cur_dag 0 _ ca cl cc _ hcur.out (by omega)).mono ?_
  rintro e w3 ⟨B, c, L, rfl, h1, h2, h3, h4⟩
  have hr : w3.heap[w.heap.size]? = wc.heap[w.heap.size]? := h4.block _ hbx.out.2.1 (by simp)
  have hB3 : Below w.heap.size w w3 := hB1.out.trans (h4.below hB1.out.size (by simp))
  have hsz3 := h4.size
  -- the graph's box
  have S2 := (CS.start h3).alloc_box #[.slice B L.length c] 26
  have d0 := S2.cell (i := 0) rfl (o := 0) rfl
  have S3 := Lib.hid S2.drew
  have hnd := Lib.hid (cur_node B L.length c (0 + 200) (w.heap.size + 1) h2.1 ca cl cc _ S3.out.cur (by omega))
  have h1' := Lib.hid h1
  have h2' := Lib.hid h2
  have hr' := Lib.hid hr
  have hB3' := Lib.hid hB3
  have hs3 : Hid (w.heap.size + 1 + 1 ≤ w3.heap.size) := by unfold Hid; rw [← hsz.out]; exact hsz3
  clear h1 h2 h3 h4 hcur hr S2 hB3 hsz3
  go_wp2_with fail
  refine wp_region_held_lit (S := (fun w' => w'.cell? ⟨w3.heap.size, 0, none⟩ = some (.slice B L.length c))) 6 [false, false, false, false, false, false] (by kernel_rfl) (by kernel_rfl) (by kernel_rfl) ?_ ?_
  · exact d0
  intro hSc
  (refine wpAnyH_take (i := 0) (v := ?_) rfl (by kernel_rfl) (by kernel_rfl) (by kernel_rfl) (fun _ _ _ h => h) (Or.inl ⟨by rfl, ?_⟩) (by assumption) ?_; rotate_left; (focus (intro w hSw; (try dsimp only at hSw); go_simp; (try with_reducible rfl); done)); (try simp only [put_rules]))
  (refine wpAnyH_take (i := 1) (v := ?_) rfl (by kernel_rfl) (by kernel_rfl) (by kernel_rfl) (fun _ _ _ h => h) (Or.inl ⟨by rfl, ?_⟩) (by assumption) ?_; rotate_left; (focus (intro w hSw; (try dsimp only at hSw); go_simp; (try with_reducible rfl); done)); (try simp only [put_rules]))
  (refine wpAnyH_take (i := 2) (v := ?_) rfl (by kernel_rfl) (by kernel_rfl) (by kernel_rfl) (fun _ _ _ h => h) (Or.inl ⟨by rfl, ?_⟩) (by assumption) ?_; rotate_left; (focus (intro w hSw; (try dsimp only at hSw); go_simp; (try with_reducible rfl); done)); (try simp only [put_rules]))
  (refine wpAnyH_ready (rs := [3]) (by kernel_rfl) (by simp) ?_; refine AllReadyH.cons rfl (fun K hK => ?_) AllReadyH.nil)
  go_simp
  go_at_call 36
  refine hnd.out.mono ?_
  rintro e w5 ⟨_, ⟨x, hx0, hx1, rfl⟩, rfl, hi5, hc5⟩
  have S5 := S3.out.turn hi5 hc5
  have d5 := S5.cell (i := 0) rfl (o := 0) rfl
  have hC := S5.chg
  have hr5 : w5.heap[w.heap.size]? = wc.heap[w.heap.size]? := (hC.block _ (by have := hs3.out; omega) (by simp)).trans hr'.out
  have f0 : w5.frozen? ⟨w.heap.size, 0, none⟩ = false := by simp [World.frozen?, hr5, hbx.out.2.2]
  have e0 : w5.cell? ⟨w.heap.size, 0, none⟩ = some (.slice none 0 0) := by simp [World.cell?, hr5, hbx.out.2.2]
  have j0 : (w5.setCell ⟨w.heap.size, 0, none⟩ (.slice B L.length c)).cell? ⟨w.heap.size, 0, none⟩ = some (.slice B L.length c) := by simp [World.cell?, World.setCell, Array.getElem?_modify, hr5, hbx.out.2.2]
  have d6 : (w5.setCell ⟨w.heap.size, 0, none⟩ (.slice B L.length c)).cell? ⟨w3.heap.size, 0, none⟩ = some (.slice B L.length c) := (World.cell?_of_block (a := ⟨w3.heap.size, 0, none⟩) (Below.heap_setCell _ _ _ _ (show w3.heap.size ≠ w.heap.size by have := hs3.out; omega))).trans d5
  have hB : Below w.heap.size w (w5.setCell ⟨w.heap.size, 0, none⟩ (.slice B L.length c)) := bst (hB3'.out.trans (hC.below hB3'.out.size (by simp))) (Nat.le_refl _) _
  have hfin := Lib.hid (And.intro (show StayC w (w5.setCell ⟨w.heap.size, 0, none⟩ (.slice B L.length c)) B L from fun W hW => h1'.out W fun k hk hk3 => by
    have hk2 : w.heap.size + 1 + 1 ≤ k := by have := hsz.out; omega
    rw [hW k (by omega) (by rw [World.size_setCell]; have := hC.size; omega), Below.heap_setCell _ _ _ _ (show k ≠ w.heap.size by omega)]
    exact hC.block k hk3 (by simp; omega)) (And.intro h2'.out hB))
  clear S3 hnd hi5 hc5 S5 hC hr5 hB h1' h2' hr' hB3'
  go_wp2_with fail
  refine hK.out _ _ d5 (fun hS2 => ?_)
  clear hK hSc d0
  (try simp only [put_rules])
  (refine wpAnyH_ready (rs := [4]) (by kernel_rfl) (by simp) ?_; refine AllReadyH.cons rfl (fun K hK => ?_) AllReadyH.nil)
  go_simp
  refine hK.out _ _ d6 (fun hS3 => ?_)
  clear hK
  (try simp only [put_rules])
  (refine wpAnyH_take (i := 5) (v := ?_) rfl (by kernel_rfl) (by kernel_rfl) (by kernel_rfl) (fun _ _ _ h => h) (Or.inl ⟨by rfl, ?_⟩) (by assumption) ?_; rotate_left; (focus (intro w hSw; (try dsimp only at hSw); go_simp; (try with_reducible rfl); done)); (try simp only [put_rules]))
  (refine wpAnyH_done (by kernel_rfl) ?_ _)
  go_wp2_with fail
  exact bodyPost_ret (v := .tuple #[.agg #[.slice B L.length c], .int .i64 x]) (by simp [results, Tryz.results16, go_sem, j0]) rfl ⟨B, c, L, x, rfl, hfin.out⟩
end Go.Proofs.YtnfjgebfmnpkbaaGreat

/- Contracts: a clause's value, its open part and its unit literal under an assignment, in the program. -/
namespace Go.Proofs.YtnfjgebfmnpkbaaGreat
open Go.RowKit

def offPg (a : List Int) (l : Int) : Bool := hasI a (-l)
def valTg (c a : List Int) (k : Nat) : Int := if (c.take k).all (offPg a) then -1 else 0
def valPg (c a : List Int) : Int := if c.any (hasI a) then 1 else valTg c a c.length
def leftPg (c a : List Int) : List Int := c.filter fun l => !offPg a l
def unitPg (c a : List Int) : Int := if valPg c a = 0 then (if (leftPg c a).length = 1 then (leftPg c a).headD 0 else 0) else 0
theorem valPg_true {c a : List Int} {k : Nat} (hk : k < c.length) (h : hasI a c[k] = true) : valPg c a = 1 := by
  unfold valPg
  rw [if_pos (List.any_eq_true.2 ⟨_, List.getElem_mem hk, h⟩)]
theorem valTg_off {c a : List Int} {k : Nat} (hk : k < c.length) (h : offPg a c[k] = true) : valTg c a (k + 1) = valTg c a k := by
  unfold valTg
  rw [List.take_succ_eq_append_getElem hk, List.all_append]
  simp [h]
theorem valTg_open {c a : List Int} {k : Nat} (hk : k < c.length) (h : offPg a c[k] = false) : valTg c a (k + 1) = 0 := by
  unfold valTg
  rw [List.take_succ_eq_append_getElem hk, List.all_append]
  simp [h]
theorem anyPg_step {c a : List Int} {k : Nat} (hk : k < c.length) (h0 : (c.take k).any (hasI a) = false) (h : hasI a c[k] = false) : (c.take (k + 1)).any (hasI a) = false := by
  rw [List.take_succ_eq_append_getElem hk, List.any_append, h0]
  simp [h]

set_option maxRecDepth 100000 in
set_option maxHeartbeats 4000000 in
theorem clauseValuePg_any (c a : List Int) (A B : Option Addr) (cc ac : Nat) (w : World) (hx : IntsAt w A c) (hy : IntsAt w B a) (hc : ∀ l ∈ c, LitS l) (hl : c.length ≤ 1000) (hal : a.length ≤ 1000) :
    Calls Tryz.prog 71 #[.slice A c.length cc, .slice B a.length ac] w fun e w' => e = .returned (.int .i64 (valPg c a)) ∧ w = w' := by
  have hX := Lib.hid hx
  have hct := Lib.hid (fun x => containsIA_any a B ac x w hy (by omega))
  clear hx hy
  go_enter Tryz.func71, Tryz.ntmps71
  go_wp2_with fail
  go_loopw [5, 10] (fun s i wr => ∃ (k : Nat) (z : Int), k ≤ c.length ∧ s = .int .i64 z ∧ i = .int .i64 k ∧ Hid (z = valTg c a k ∧ (c.take k).any (hasI a) = false) ∧ Hid (w = wr)) (fun _ i _ => c.length - (intOf i).toNat)
  case atStart => exact ⟨0, -1, Nat.zero_le _, rfl, rfl, by simp [Hid, valTg], rfl⟩
  case round =>
    obtain ⟨k, z, hk, rfl, rfl, HR, hW⟩ := hrel
    have hW' := hW.out
    subst hW'
    by_cases hlt : k < c.length
    · obtain ⟨b, off, hA, m0⟩ := hX.out.at_ k hlt
      subst hA
      have hlit := hc _ (List.getElem_mem hlt)
      obtain ⟨HR1, HR2⟩ := HR.out
      have HA := fun h => anyPg_step hlt HR2 h
      have hv1 := fun h => valPg_true (a := a) hlt h
      have hvo := fun h => valTg_off (a := a) hlt h
      have hvn := fun h => valTg_open (a := a) hlt h
      have h1 := hct.out c[k]
      have h2 := hct.out (-c[k])
      generalize c[k] = x at *
      have hw1 : IntKind.i64.wrap (-x) = -x := IntWalk.i64_in _ (by unfold LitS at hlit; omega)
      cases hp : hasI a x
      · rw [hp] at h1
        cases hn : hasI a (-x)
        · rw [hn] at h2
          have HN : Hid ((0 : Int) = valTg c a (k + 1) ∧ (c.take (k + 1)).any (hasI a) = false) := ⟨(hvn hn).symm, HA hp⟩
          replace h1 := Lib.hid h1
          replace h2 := Lib.hid h2
          clear HR HR1 HR2 HA hv1 hvo hvn hp hn
          go_wp2_with fail
          refine h1.out.mono ?_
          rintro e w1 ⟨rfl, rfl⟩
          go_wp2_with fail
          refine h2.out.mono ?_
          rintro e w1 ⟨rfl, rfl⟩
          go_wp2_with fail
          go_roundw
          case rel => exact ⟨k + 1, 0, by omega, rfl, by go_num, HN, by first | exact rfl | exact Lib.hid trivial⟩
          case measure => simp [intOf]; omega
        · rw [hn] at h2
          have HN : Hid (z = valTg c a (k + 1) ∧ (c.take (k + 1)).any (hasI a) = false) := ⟨by rw [hvo hn]; exact HR1, HA hp⟩
          replace h1 := Lib.hid h1
          replace h2 := Lib.hid h2
          clear HR HR1 HR2 HA hv1 hvo hvn hp hn
          go_wp2_with fail
          refine h1.out.mono ?_
          rintro e w1 ⟨rfl, rfl⟩
          go_wp2_with fail
          refine h2.out.mono ?_
          rintro e w1 ⟨rfl, rfl⟩
          go_wp2_with fail
          go_roundw
          case rel => exact ⟨k + 1, z, by omega, rfl, by go_num, HN, by first | exact rfl | exact Lib.hid trivial⟩
          case measure => simp [intOf]; omega
      · rw [hp] at h1
        have HN := Lib.hid (hv1 hp)
        replace h1 := Lib.hid h1
        clear HR HR1 HR2 HA hv1 hvo hvn hp h2
        go_wp2_with fail
        refine h1.out.mono ?_
        rintro e w1 ⟨rfl, rfl⟩
        go_wp2_with fail
        go_ret
        exact ⟨ret_int HN.out.symm, rfl⟩
    · obtain rfl : k = c.length := by omega
      have HN : Hid (valPg c a = z) := by
        obtain ⟨h1, h2⟩ := HR.out
        rw [List.take_length] at h2
        unfold Hid valPg
        rw [h2, h1]
        rfl
      clear HR
      go_wp2_with fail
      go_ret
      exact ⟨ret_int HN.out.symm, rfl⟩

set_option maxRecDepth 100000 in
set_option maxHeartbeats 1000000 in
theorem openPart1Pg_any (l : Int) (a : List Int) (B : Option Addr) (ac b : Nat) (hl : LitS l) (w : World) (hy : IntsAt w B a) (hal : a.length ≤ 1000) (c0 : w.cell? ⟨b, 0, none⟩ = some (.slice B a.length ac)) :
    Calls Tryz.prog 80 #[.int .i64 l, .pointer (some ⟨b, 0, none⟩)] w fun e w' => e = .returned (.bool (offPg a l)) ∧ Below w.heap.size w w' := by
  have hct := containsIA_any a B ac (-l) w hy (by omega)
  rw [show hasI a (-l) = offPg a l from rfl] at hct
  have hw1 : IntKind.i64.wrap (-l) = -l := IntWalk.i64_in _ (by unfold LitS at hl; omega)
  generalize offPg a l = q at *
  replace hct := Lib.hid hct
  clear hy
  go_enter Tryz.func80, Tryz.ntmps80
  go_wp2_with fail
  refine hct.out.mono ?_
  rintro e w1 ⟨rfl, rfl⟩
  go_wp2_with fail
  go_ret
  exact ⟨rfl, bb _⟩

set_option maxRecDepth 100000 in
set_option maxHeartbeats 1000000 in
theorem openPartPg_any (c a : List Int) (A B : Option Addr) (cc ac : Nat) (w : World) (hx : IntsAt w A c) (hy : IntsAt w B a) (hc : ∀ l ∈ c, LitS l) (hl : c.length ≤ 1000) (hal : a.length ≤ 1000) :
    Calls Tryz.prog 72 #[.slice A c.length cc, .slice B a.length ac] w (OneI w (leftPg c a)) := by
  have eg : Enter1 80 := enters_of Tryz.func80 (by kernel_rfl) rfl
  have S0 := (Sp.start w).alloc_box #[.slice B a.length ac] 33
  have hcl := Lib.hid (cloneA_any A cc c _ (hx.grow S0.below) (by omega))
  have hok := Lib.hid hx.ok
  have hcH := Lib.hid hc
  have hY := Lib.hid hy
  replace S0 := Lib.hid S0
  obtain ⟨zs, hzs⟩ : ∃ zs, leftPg c a = zs := ⟨_, rfl⟩
  rw [hzs]
  unfold leftPg at hzs
  replace hzs := Lib.hid hzs
  clear hx hc hy
  go_enter Tryz.func72, Tryz.ntmps72
  go_wp2_with fail
  refine hcl.out.mono ?_
  rintro e w1 ⟨D, dc, rfl, T⟩
  have S1 : Sp w w1 [Own 3 1 (.slice D c.length dc) c.length (c.map (.int .i64)), Box w.heap.size 33 #[.slice B a.length ac]] := S0.out.seq T
  have hdel := Lib.hid (deleteFuncI_any (cb := #[.pointer (some ⟨w.heap.size, 0, none⟩)]) (p := offPg a) (R := LitS) eg c D dc w w1 _ S1 hok.out (by omega) hcH.out fun x ys W hR SW => openPart1Pg_any x a B ac w.heap.size hR W (hY.out.grow SW.below) hal (SW.cell (i := 1) rfl (o := 0) rfl))
  rw [hzs.out] at hdel
  clear S0 S1 T hcl
  go_wp2_with fail
  refine hdel.out.mono ?_
  rintro e w2 ⟨rfl, S8, -⟩
  have S9 := Lib.hid (S8.pick (qs := [Own 3 1 (.slice D zs.length dc) zs.length (zs.map (.int .i64))]) [0] rfl)
  clear S8 hdel
  go_wp2_with fail
  go_ret
  exact ⟨D, dc, rfl, S9.out⟩

set_option maxRecDepth 100000 in
set_option maxHeartbeats 1000000 in
theorem unitPg_any (c a : List Int) (A B : Option Addr) (cc ac : Nat) (w : World) (hx : IntsAt w A c) (hy : IntsAt w B a) (hc : ∀ l ∈ c, LitS l) (hl : c.length ≤ 1000) (hal : a.length ≤ 1000) :
    Calls Tryz.prog 62 #[.slice A c.length cc, .slice B a.length ac] w fun e w' => e = .returned (.int .i64 (unitPg c a)) ∧ Below w.heap.size w w' := by
  have hv := clauseValuePg_any c a A B cc ac w hx hy hc hl hal
  have ho := Lib.hid (openPartPg_any c a A B cc ac w hx hy hc hl hal)
  have hleft : Hid (∀ x ∈ leftPg c a, I64 x) := fun x h => (hc x (List.mem_filter.1 h).1).i64
  clear hx hy hc
  unfold unitPg
  by_cases h0 : valPg c a = 0
  · rw [h0] at hv
    rw [if_pos h0]
    replace hv := Lib.hid hv
    obtain ⟨zs, hzs⟩ : ∃ zs, leftPg c a = zs := ⟨_, rfl⟩
    rw [hzs] at ho hleft ⊢
    obtain ⟨R, hR⟩ : ∃ R, (if zs.length = 1 then zs.headD 0 else 0) = R := ⟨_, rfl⟩
    rw [hR]
    replace hR := Lib.hid hR
    clear h0 hzs
    go_enter Tryz.func62, Tryz.ntmps62
    go_wp2_with fail
    refine hv.out.mono ?_
    rintro e w1 ⟨rfl, rfl⟩
    go_wp2_with fail
    refine ho.out.mono ?_
    rintro e w2 ⟨D, dc, rfl, T⟩
    have hB := Lib.hid T.below
    have hI := T.ints (i := 0) rfl hleft.out
    match zs, hI, hR with
    | [], _, hR =>
      have e0 : (0 : Int) = R := by simpa using hR.out
      clear T ho hv hI hR
      replace e0 := Lib.hid e0
      go_wp2_with fail
      go_ret
      exact ⟨ret_int e0.out, hB.out⟩
    | [x], hI, hR =>
      have e0 : x = R := by simpa using hR.out
      obtain ⟨b, off, rfl, m0⟩ := hI.at_ 0 (by simp)
      rw [Nat.add_zero] at m0
      simp only [List.getElem_cons_zero] at m0
      clear T ho hv hI hR
      replace e0 := Lib.hid e0
      go_wp2_with fail
      go_ret
      exact ⟨ret_int e0.out, hB.out⟩
    | x :: y :: zs, _, hR =>
      have h1 : (x :: y :: zs).length = zs.length + 2 := rfl
      have hn : ¬ (x :: y :: zs).length = 1 := by rw [h1]; omega
      have e0 : (0 : Int) = R := by have := hR.out; rwa [if_neg hn] at this
      clear hR
      generalize (x :: y :: zs).length = n at *
      have hnb : (n == 1) = false := by simp [hn]
      clear T ho hv hI h1
      replace e0 := Lib.hid e0
      go_wp2_with fail
      go_ret
      exact ⟨ret_int e0.out, hB.out⟩
  · rw [if_neg h0]
    generalize valPg c a = z at *
    have hzb : (z == 0) = false := by simp [h0]
    replace hv := Lib.hid hv
    clear ho
    go_enter Tryz.func62, Tryz.ntmps62
    go_wp2_with fail
    refine hv.out.mono ?_
    rintro e w1 ⟨rfl, rfl⟩
    go_wp2_with fail
    go_ret
    exact ⟨rfl, bb _⟩
end Go.Proofs.YtnfjgebfmnpkbaaGreat

/- Plain facts: propagation in a graph's formula does not stand still. -/
namespace Go.Proofs.YtnfjgebfmnpkbaaGreat
open Go.RowKit

theorem peb_stuck {D : List (List Int)} {a : List Int} (hD : dagB D = true) (ha : clauseB D.length a = true) (h1 : ∀ c ∈ pebX D, 0 ≤ valPg c a) (h2 : ∀ c ∈ pebX D, unitPg c a = 0) : False := by
  have hg := good_s ha
  obtain ⟨h10, hpre⟩ := dag_parts hD
  have hall := peb_up hD (fun x => x ∈ a) fun v hv hp => by
    have hc := peb_mem hv
    have hv1 := h1 _ hc
    have hv2 := h2 _ hc
    have hoff : ∀ p ∈ D[v], offPg a (-p - 1) = true := fun p hpm => by
      unfold offPg
      rw [show -(-p - 1) = p + 1 by omega]
      exact hasS_iff.2 (hp p hpm)
    cases hany : (pebG v D[v]).any (hasI a) with
    | true =>
      obtain ⟨l, hl, hq⟩ := List.any_eq_true.1 hany
      rw [hasS_iff] at hq
      unfold pebG at hl
      rcases List.mem_append.1 hl with hl | hl
      · exfalso
        obtain ⟨p, hpm, rfl⟩ := List.mem_map.1 hl
        refine hg.clash (hp p hpm) ?_
        rw [show -(p + 1) = -p - 1 by omega]; exact hq
      · obtain rfl := List.mem_singleton.1 hl; exact hq
    | false =>
      exfalso
      have hval : valPg (pebG v D[v]) a = if (pebG v D[v]).all (offPg a) then -1 else 0 := by
        unfold valPg valTg
        rw [hany, List.take_length]; rfl
      have hmapf : (D[v].map fun p => -p - 1).filter (fun l => !offPg a l) = [] := by
        rw [List.filter_eq_nil_iff]
        intro l hl
        obtain ⟨p, hpm, rfl⟩ := List.mem_map.1 hl
        rw [hoff p hpm]; simp
      cases hlast : offPg a ((v : Int) + 1) with
      | true =>
        have : (pebG v D[v]).all (offPg a) = true := by
          rw [List.all_eq_true]
          intro l hl
          unfold pebG at hl
          rcases List.mem_append.1 hl with hl | hl
          · obtain ⟨p, hpm, rfl⟩ := List.mem_map.1 hl
            exact hoff p hpm
          · obtain rfl := List.mem_singleton.1 hl; exact hlast
        rw [hval, this] at hv1
        simp at hv1
      | false =>
        have hnall : (pebG v D[v]).all (offPg a) = false := by
          rw [List.all_eq_false]
          exact ⟨(v : Int) + 1, by unfold pebG; simp, by rw [hlast]; simp⟩
        rw [hnall] at hval
        have hleft : leftPg (pebG v D[v]) a = [(v : Int) + 1] := by
          unfold leftPg pebG
          rw [List.filter_append, hmapf, List.nil_append, List.filter_cons, hlast]; rfl
        unfold unitPg at hv2
        rw [if_pos (by rw [hval]; rfl), hleft] at hv2
        simp at hv2
        omega
  have hn := hall (D.length - 1) (by omega)
  rw [show ((D.length - 1 : Nat) : Int) + 1 = (D.length : Int) by omega] at hn
  have hv := h1 _ (peb_last D)
  have hno : hasI a (-(D.length : Int)) = false := by
    rw [hasS_not]
    exact fun h => hg.clash hn h
  have hval : valPg [-(D.length : Int)] a = -1 := by
    unfold valPg valTg
    have h3 : ([-(D.length : Int)]).any (hasI a) = false := by simp [hno]
    have h4 : (([-(D.length : Int)]).take ([-(D.length : Int)]).length).all (offPg a) = true := by
      simp [offPg]
      exact hasS_iff.2 hn
    rw [h3, h4]; rfl
  rw [hval] at hv
  omega
end Go.Proofs.YtnfjgebfmnpkbaaGreat

/- Contract: unit propagation, weakly: where it ends without a conflict nothing is false and nothing is unit. -/
namespace Go.Proofs.YtnfjgebfmnpkbaaGreat
open Go.RowKit

def lenAt0 (w : World) (b : Nat) : Nat := match w.cell? ⟨b, 0, none⟩ with | some (.slice _ n _) => n | _ => 0
theorem lenAt0_of {w : World} {b n c : Nat} {B : Option Addr} (h : w.cell? ⟨b, 0, none⟩ = some (.slice B n c)) : lenAt0 w b = n := by simp [lenAt0, h]
theorem Src.pairP {w : World} {b : Nat} {x y : Value} (h0 : w.cell? ⟨b, 0, none⟩ = some x) (h1 : w.cell? ⟨b, 1, none⟩ = some y) : Src w (some ⟨b, 0, none⟩) 1 2 [x, y] :=
  .inr ⟨_, rfl, rfl, fun j u hj => by
    match j, hj with
    | 0, hj => simp at hj; subst hj; rw [add_none]; exact h0
    | 1, hj => simp at hj; subst hj; rw [add_none]; exact h1⟩
theorem infoPairP : (Tryz.prog.info? 93).map (fun i => (i.zero, i.size, i.bytes)) = some (some (.agg #[.int .i64 0, .int .i64 0]), 2, 16) := by kernel_rfl
def falsP (X : List (List Int)) (a : List Int) (i : Nat) : Bool := decide (valPg (X.getD i []) a < 0)
theorem nodL_pos {p : Nat → Bool} {m : Nat} : 0 < (nodL p m).length ↔ ∃ i, i < m ∧ p i = true := by
  constructor
  · intro h
    match hq : nodL p m, h with
    | x :: xs, _ =>
      have hx : x ∈ nodL p m := by rw [hq]; simp
      unfold nodL at hx
      obtain ⟨k, hk, -⟩ := List.mem_map.1 hx
      obtain ⟨h1, h2⟩ := List.mem_filter.1 hk
      exact ⟨k, List.mem_range.1 h1, h2⟩
  · rintro ⟨i, hi, hp⟩
    exact List.length_pos_of_mem (nodL_in hi hp)

set_option maxRecDepth 100000 in
set_option maxHeartbeats 4000000 in
theorem falseClauses_any (X : List (List Int)) (a : List Int) (A B : Option Addr) (cc ac : Nat) (w : World) (hx : ClsAt w A X) (hy : IntsAt w B a) (hc : ∀ c ∈ X, ∀ l ∈ c, LitS l) (hxl : X.length ≤ 1000) (hl : ∀ c ∈ X, c.length ≤ 1000) (hal : a.length ≤ 1000) :
    Calls Tryz.prog 60 #[.slice A X.length cc, .slice B a.length ac] w fun e w' => ∃ D dc, e = .returned (.slice D (nodL (falsP X a) X.length).length dc) ∧ Below w.heap.size w w' := by
  obtain ⟨i0, hi0, hy0, hy1, hy2⟩ := info_parts infoInt
  have S0 := Lib.hid ((Sp.start w).own_nil 3 1)
  have hX := Lib.hid hx
  have hY := Lib.hid hy
  replace hc := Lib.hid hc
  clear hx hy
  go_enter Tryz.func60, Tryz.ntmps60
  go_wp2_with fail
  go_loopw [5, 10] (fun v5 v10 wr => ∃ (x : Nat) (E : Option Addr) (c : Nat) (ys : List Int), x ≤ X.length ∧ v10 = .int .i64 x ∧ v5 = .slice E ys.length c ∧ Hid (ys = nodL (falsP X a) x) ∧ Hid (Sp w wr [Own 3 1 (.slice E ys.length c) ys.length (ys.map (.int .i64))])) (fun _ v10 _ => X.length - (intOf v10).toNat)
  case atStart => exact ⟨0, none, 0, [], Nat.zero_le _, rfl, rfl, rfl, S0⟩
  case round =>
    clear S0
    obtain ⟨x, E, c, ys, hxl2, rfl, rfl, hys, HS⟩ := hrel
    by_cases hlt : x < X.length
    · obtain ⟨b, off, D, dc, hA, m0, hI⟩ := (hX.out.grow HS.out.below).at_ x hlt
      subst hA
      have hst := nodL_succ (falsP X a) x
      have hyl : ys.length ≤ 1000 := by rw [hys.out]; exact Nat.le_trans (nodL_len _ _) (by omega)
      have hcv := clauseValuePg_any X[x] a D B dc ac wr hI (hY.out.grow HS.out.below) (hc.out _ (List.getElem_mem hlt)) (hl _ (List.getElem_mem hlt)) hal
      have hfp : falsP X a x = decide (valPg X[x] a < 0) := by unfold falsP; rw [getD_row hlt]
      rw [hfp] at hst
      generalize valPg X[x] a = z at *
      generalize X[x] = l at *
      replace hcv := Lib.hid hcv
      clear hI hfp
      by_cases hz : z < 0
      · have d1 : decide (z < 0) = true := decide_eq_true hz
        have hn2 : Hid (ys ++ [(x : Int)] = nodL (falsP X a) (x + 1)) := by unfold Hid; rw [hst, d1, hys.out]; simp
        clear hst hys
        go_wp2_with fail
        refine hcv.out.mono ?_
        rintro e w3 ⟨rfl, rfl⟩
        clear hcv m0
        have S3 := HS.out.alloc_box #[.int .i64 (x : Int)] 3
        (try simp only [World.size_setCell] at S3)
        have kB := S3.cell (i := 0) rfl (o := 0) rfl
        replace S3 := Lib.hid S3
        clear HS
        go_wp2_with (at_builtin; refine wpList_append_src rfl _ _ rfl Tryz.underlying33 hi0 hy0 hy1 hy2 rfl (by decide) _ _ _ rfl (S3.out.own (i := 1) rfl) _ 1 1 [.int .i64 (x : Int)] rfl (Src.one kB) (by simp [Value.oneCell']) ?c3 ?c4 ?_)
        case c3 => unfold maxLen; omega
        case c4 => omega
        intro vY wY hownY hgY hatY
        have S4 := (S3.out.own_push (i := 1) rfl (bb _) hownY hgY (by simpa using hatY)).tail
        obtain ⟨aY, cY, rfl⟩ := own_slice hownY
        have S5 := Lib.hid (ownI_snoc (d := ys) (x := (x : Int)) S4)
        clear S3 S4 kB hownY hgY hatY
        have hlen : ys.length + 1 = (ys ++ [(x : Int)]).length := by simp
        rw [hlen]
        replace hlen := Lib.hid hlen
        clear hlen
        go_wp2_with fail
        go_roundw
        case rel => exact ⟨x + 1, aY, cY, ys ++ [(x : Int)], by omega, by go_num, by simp, hn2, S5⟩
        case measure => simp [intOf]; omega
      · have d1 : decide (z < 0) = false := decide_eq_false hz
        have hn2 : Hid (ys = nodL (falsP X a) (x + 1)) := by unfold Hid; rw [hst, d1, hys.out]; simp
        clear hst
        go_wp2_with fail
        refine hcv.out.mono ?_
        rintro e w3 ⟨rfl, rfl⟩
        clear hcv m0
        go_wp2_with fail
        go_roundw
        case rel => exact ⟨x + 1, E, c, ys, by omega, by go_num, rfl, hn2, HS⟩
        case measure => simp [intOf]; omega
    · obtain rfl : x = X.length := by omega
      have hB := Lib.hid HS.out.below
      have hy := hys.out
      subst hy
      clear HS hys
      go_wp2_with fail
      go_ret
      exact ⟨E, c, rfl, hB.out⟩

set_option maxRecDepth 100000 in
theorem propagate1_any (c a : List Int) (A B : Option Addr) (cc ac g : Nat) (w : World) (hx : IntsAt w A c) (hy : IntsAt w B a) (hc : ∀ l ∈ c, LitS l) (hl : c.length ≤ 1000) (hal : a.length ≤ 1000) (k0 : w.cell? ⟨g, 0, none⟩ = some (.slice B a.length ac)) :
    Calls Tryz.prog 61 #[.slice A c.length cc, .pointer (some ⟨g, 0, none⟩)] w fun e w' => e = .returned (.bool (unitPg c a != 0)) ∧ Below w.heap.size w w' := by
  have hu := Lib.hid (unitPg_any c a A B cc ac w hx hy hc hl hal)
  clear hx hy hc
  generalize unitPg c a = z at *
  go_enter Tryz.func61, Tryz.ntmps61
  go_wp2_with fail
  refine hu.out.mono ?_
  rintro e w1 ⟨rfl, hb⟩
  replace hb := Lib.hid hb
  clear hu
  go_wp2_with fail
  go_ret
  exact ⟨rfl, hb.out⟩
/-- An open literal is set. -/
theorem unit_facts {c a : List Int} (h : unitPg c a ≠ 0) : unitPg c a ∈ c ∧ hasI a (unitPg c a) = false ∧ hasI a (-(unitPg c a)) = false := by
  unfold unitPg at h ⊢
  by_cases h0 : valPg c a = 0
  · rw [if_pos h0] at h ⊢
    by_cases h1 : (leftPg c a).length = 1
    · rw [if_pos h1] at h ⊢
      obtain ⟨x, hx⟩ := List.length_eq_one_iff.1 h1
      have hm : x ∈ leftPg c a := by rw [hx]; simp
      rw [hx]
      simp only [List.headD_cons]
      unfold leftPg at hm
      obtain ⟨hm1, hm2⟩ := List.mem_filter.1 hm
      refine ⟨hm1, ?_, by simpa [offPg] using hm2⟩
      cases hq : hasI a x with
      | false => rfl
      | true =>
        unfold valPg at h0
        rw [if_pos (List.any_eq_true.2 ⟨x, hm1, hq⟩)] at h0
        cases h0
    · rw [if_neg h1] at h; exact absurd rfl h
  · rw [if_neg h0] at h; exact absurd rfl h
theorem unit_set {n : Nat} {a : List Int} {l : Int} (ha : clauseB n a = true) (hl : LitS l) (hb : -(n : Int) ≤ l ∧ l ≤ n) (h1 : hasI a l = false) (h2 : hasI a (-l) = false) : clauseB n (setS a l) = true ∧ (setS a l).length = a.length + 1 := by
  have hg := good_s ha
  have hp := clause_parts ha
  have hw : withoutB a (absV l) = a := by
    unfold withoutB
    rw [List.filter_eq_self]
    intro x hx
    have hlx := hg.mem x hx
    have hne : absV x ≠ absV l := fun e => by
      rw [hlx.abs, hl.abs] at e
      have : x = l ∨ x = -l := by
        unfold LitS at hlx hl
        split at e <;> split at e <;> omega
      rcases this with rfl | rfl
      · rw [hasS_iff.2 hx] at h1; cases h1
      · rw [hasS_iff.2 hx] at h2; cases h2
    simp [hne]
  have e : setS a l = putB a l := by unfold setS; rw [hw]
  refine ⟨?_, by rw [e, putB_len]⟩
  refine good_clauseP (by omega) (set_good hg hl) fun x hx => ?_
  rw [e] at hx
  rcases memS_putB.1 hx with rfl | hx
  · exact hb
  · have := hp.2.1 x hx; omega
/-- What is known where propagation ends. -/
def PropP (n : Nat) (X : List (List Int)) (w : World) (e : Ending) (w' : World) : Prop :=
  ∃ (D E : Option Addr) (dn dc m ec : Nat) (q : Bool), e = .returned (.tuple #[.slice D dn dc, .slice E m ec, .bool q]) ∧ Below w.heap.size w w' ∧ (q = false → ∃ a, clauseB n a = true ∧ (∀ c ∈ X, 0 ≤ valPg c a) ∧ ∀ c ∈ X, unitPg c a = 0)
end Go.Proofs.YtnfjgebfmnpkbaaGreat

/- Contract: unit propagation and its end, weakly. -/
namespace Go.Proofs.YtnfjgebfmnpkbaaGreat
open Go.RowKit

theorem idxP_no {α : Type} {p : α → Bool} {xs : List α} (h : xs.any p = false) : idxP p xs = -1 := by unfold idxP; rw [h]; rfl
theorem idxP_yes {α : Type} {p : α → Bool} {xs : List α} (h : xs.any p = true) : ∃ (i : Nat) (hi : i < xs.length), idxP p xs = (i : Int) ∧ p xs[i] = true := by
  have hlt : xs.findIdx p < xs.length := List.findIdx_lt_length_of_exists (by simpa using List.any_eq_true.1 h)
  exact ⟨xs.findIdx p, hlt, by unfold idxP; rw [if_pos h], List.findIdx_getElem (w := hlt)⟩
abbrev PairRow (E : Option Addr) (m ec : Nat) (us : List Value) : Asn := Own 93 2 (.slice E m ec) m us

set_option maxRecDepth 100000 in
set_option maxHeartbeats 8000000 in
theorem propagate_any (n : Nat) (X : List (List Int)) (hgd : goodB n X = true) (a0 : List Int) (h0 : clauseB n a0 = true) (A B : Option Addr) (cc ac : Nat) (w : World) (hx : ClsAt w A X) (hy : IntsAt w B a0) :
    Calls Tryz.prog 43 #[.slice A X.length cc, .slice B a0.length ac] w (PropP n X w) := by
  obtain ⟨i1, hi1, hrz0, hrz1, hrz2⟩ := info_parts infoPairP
  have hal0 := clause_len h0
  have hcn := good_cnf hgd
  have hXl : X.length ≤ 60 := by
    unfold goodB at hgd
    simp only [Bool.and_eq_true, decide_eq_true_eq] at hgd
    exact hgd.1.2
  have hcl : ∀ c ∈ X, clauseB n c = true := fun c hc => by
    unfold goodB at hgd
    simp only [Bool.and_eq_true, List.all_eq_true] at hgd
    exact hgd.2 c hc
  have hlit := Lib.hid (fun c (hc : c ∈ X) => (good_s (hcl c hc)).mem)
  have hbd := Lib.hid (fun c (hc : c ∈ X) l (hl : l ∈ c) => ((clause_parts (hcl c hc)).2.1 l hl).2)
  have hlen := Lib.hid (fun c (hc : c ∈ X) => show c.length ≤ 1000 by have := clause_len (hcl c hc); omega)
  have S0 := (Sp.start w).alloc_box #[.slice B a0.length ac] 33
  have c0 := S0.cell (i := 0) rfl (o := 0) rfl
  have hclo := Lib.hid (cloneA_any B ac a0 _ (hy.grow S0.below) (by omega))
  have hX := Lib.hid hx
  have hA0 := Lib.hid h0
  replace S0 := Lib.hid S0
  clear hx hy hgd hcn hcl h0
  go_enter Tryz.func43, Tryz.ntmps43
  go_wp2_with fail
  refine hclo.out.mono ?_
  rintro e w1 ⟨D0, dc0, rfl, T⟩
  have S1 := (S0.out.seq T)
  have c1 := S1.cell (i := 1) rfl (o := 0) rfl
  have f1 := S1.frozen (i := 1) rfl 0
  have S2 := Lib.hid (Sp.pick [1, 0, 0] ((S1.store (i := 1) rfl 0 (.slice D0 a0.length dc0)).own_nil 93 2) rfl)
  have hs2 : Hid (0 ≤ a0.length) := Nat.zero_le _
  clear S0 S1 T hclo c0
  go_wp2_with fail
  go_loopw [7] (fun v7 wr => ∃ (a : List Int) (D E : Option Addr) (dc m ec : Nat) (us : List Value), v7 = .slice E m ec ∧ m ≤ a.length ∧ a.length ≤ 12 ∧ Hid (clauseB n a = true) ∧ Hid (Sp w wr [Own 3 1 (.slice D a.length dc) a.length (a.map (.int .i64)), PairRow E m ec us, Box w.heap.size 33 #[.slice D a.length dc]])) (fun _ wr => 13 - lenAt0 wr w.heap.size)
  case atStart => exact ⟨a0, D0, none, dc0, 0, 0, [], rfl, Nat.zero_le _, hal0, hA0, S2⟩
  case round =>
    clear S2 hA0 hs2 c1 f1
    obtain ⟨a, D, E, dc, m, ec, us, rfl, hm, hal, hA, HS⟩ := hrel
    have c0 := HS.out.cell (i := 2) rfl (o := 0) rfl
    have hmea := Lib.hid (lenAt0_of c0)
    have hIa := Lib.hid (HS.out.ints (i := 0) rfl (fun x hx => ((good_s hA.out).mem x hx).i64))
    have hfc := Lib.hid (falseClauses_any X a A D cc dc wr (hX.out.grow HS.out.below) hIa.out (fun c hc => hlit.out c hc) (by omega) (fun c hc => hlen.out c hc) (by omega))
    have hps := Lib.hid (nodL_pos (p := falsP X a) (m := X.length))
    generalize (nodL (falsP X a) X.length).length = fn at *
    by_cases hf : 0 < fn
    · clear hps hIa hX hlit hlen hbd
      go_wp2_with fail
      refine hfc.out.mono ?_
      rintro e w3 ⟨F, fc, rfl, hb3⟩
      have S3 := HS.out.grow hb3
      have c3 := S3.cell (i := 2) rfl (o := 0) rfl
      have hB := Lib.hid S3.below
      clear HS hfc hb3 S3 c0
      go_wp2_with fail
      exact bodyPost_ret (v := .tuple #[.slice D a.length dc, .slice E m ec, .bool true]) (by simp [results, Tryz.results43, go_sem]) rfl ⟨D, E, a.length, dc, m, ec, true, rfl, hB.out, fun h => by cases h⟩
    · have hnf : Hid (∀ c ∈ X, 0 ≤ valPg c a) := fun c hc => Int.not_lt.1 fun hv => by
        obtain ⟨i, hi, rfl⟩ := List.getElem_of_mem hc
        exact hf (hps.out.2 ⟨i, hi, by unfold falsP; rw [getD_row hi]; exact decide_eq_true hv⟩)
      obtain rfl : fn = 0 := by omega
      clear hps hf
      go_wp2_with fail
      refine hfc.out.mono ?_
      rintro e w3 ⟨F, fc, rfl, hb3⟩
      have S3 := Lib.hid (HS.out.grow hb3)
      have hIa3 := Lib.hid (hIa.out.grow hb3)
      have c3 := S3.out.cell (i := 2) rfl (o := 0) rfl
      have eg : Enter1 61 := enters_of Tryz.func61 (by kernel_rfl) rfl
      have hix := indexFuncS_any (p := fun c => unitPg c a != 0) (R := fun c => c ∈ X) (cb := #[.pointer (some ⟨w.heap.size, 0, none⟩)]) eg X A cc w3 (hX.out.grow S3.out.below) (by omega) (fun c hc => hc) (fun c A' c' W hI hR hb => propagate1_any c a A' D c' dc w.heap.size W hI (hIa3.out.grow hb) (hlit.out c hR) (hlen.out c hR) (by omega) (cell_below c3 hb))
      clear HS hfc hb3 c0 hIa eg
      cases hq : X.any fun c => unitPg c a != 0
      · rw [idxP_no hq] at hix
        have hun : Hid (∀ c ∈ X, unitPg c a = 0) := fun c hc => by
          have := List.any_eq_false.1 hq c hc
          simpa using this
        replace hix := Lib.hid hix
        clear hq hX hlit hlen hbd hIa3
        go_wp2_with fail
        refine hix.out.mono ?_
        rintro e w4 ⟨rfl, hb4⟩
        have S4 := S3.out.grow hb4
        have c4 := S4.cell (i := 2) rfl (o := 0) rfl
        have hB := Lib.hid S4.below
        clear hix hb4 S3 S4 c3
        go_wp2_with fail
        exact bodyPost_ret (v := .tuple #[.slice D a.length dc, .slice E m ec, .bool false]) (by simp [results, Tryz.results43, go_sem]) rfl ⟨D, E, a.length, dc, m, ec, false, rfl, hB.out, fun _ => ⟨a, hA.out, hnf.out, hun.out⟩⟩
      · obtain ⟨i, hi, hidx, hpi⟩ := idxP_yes hq
        rw [hidx] at hix
        replace hix := Lib.hid hix
        have hne : unitPg X[i] a ≠ 0 := by simpa using hpi
        obtain ⟨u1, u2, u3⟩ := unit_facts hne
        have hcm := List.getElem_mem hi
        have hll := Lib.hid (hlit.out _ hcm _ u1)
        have hset := Lib.hid (unit_set hA.out hll.out (hbd.out _ hcm _ u1) u2 u3)
        clear hq hpi hidx hne u1 u2 u3 hnf
        go_wp2_with fail
        refine hix.out.mono ?_
        rintro e w4 ⟨rfl, hb4⟩
        have S4 := Lib.hid (S3.out.grow hb4)
        have hIa4 := hIa3.out.grow hb4
        obtain ⟨b, off, F2, fc2, hA', m0, hIc⟩ := (hX.out.grow S4.out.below).at_ i hi
        subst hA'
        have hu := Lib.hid (fun W (h : Below w4.heap.size w4 W) => unitPg_any X[i] a F2 D fc2 dc W (hIc.grow h) (hIa4.grow h) (hlit.out _ hcm) (hlen.out _ hcm) (by omega))
        have c4 := S4.out.cell (i := 2) rfl (o := 0) rfl
        have k0 := cell_regrown m0
        have k1 := cell_regrown c4
        generalize unitPg X[i] a = l at *
        generalize X[i] = cl at *
        clear hix hb4 S3 c3 hIa3 hIa4 hIc m0 c4 hcm
        go_wp2_with fail
        refine wp_region_quiet_below (by kernel_rfl) (by kernel_rfl) ?_
        repeat (any_goals (first | go_big_quiet_step ((go_at_call 62; exact Calls.regrown_of (hu.out _ (below_regrown _ _ _))))))
        refine wpQuiet_nil ?_
        rintro w5 ⟨p, rfl⟩
        have S5 := Lib.hid (S4.out.grow (below_regrown _ p.d p.os))
        clear S4 k0 k1 hu
        generalize «Sort».grow (redrawn w4 p.d) p.os = w6 at *
        clear p
        have c5 := S5.out.cell (i := 2) rfl (o := 0) rfl
        have hse := Lib.hid (setI_any a D dc l w6 (S5.out.ints (i := 0) rfl (fun x hx => ((good_s hA.out).mem x hx).i64)) (good_s hA.out) hll.out (by omega))
        generalize setS a l = a2 at *
        go_wp2_with fail
        refine hse.out.mono ?_
        rintro e w7 ⟨D2, dc2, rfl, T⟩
        have S6 := S5.out.seq T
        have f6 := S6.frozen (i := 3) rfl 0
        have c6 := S6.cell (i := 3) rfl (o := 0) rfl
        have S7 := S6.store (i := 3) rfl 0 (.slice D2 a2.length dc2)
        have S8 := S7.alloc_box #[.int .i64 l, .int .i64 i] 93
        have p0 := S8.cell (i := 0) rfl (o := 0) rfl
        have p1 := S8.cell (i := 0) rfl (o := 1) rfl
        have hown := Lib.hid (S8.own (i := 3) rfl)
        replace S8 := Lib.hid S8
        have ha2 := Lib.hid hset.out.1
        have ha3 := Lib.hid (clause_len hset.out.1)
        have hsl := Lib.hid hset.out.2
        (try simp only [World.size_setCell] at S8 p0 p1 hown)
        clear S5 T S6 S7 hse c5 hset
        go_wp2_with (at_builtin; refine wpList_append_src rfl _ _ rfl Tryz.underlying73 hi1 hrz0 hrz1 hrz2 rfl (by decide) _ m _ rfl hown.out _ 1 1 [.int .i64 l, .int .i64 i] rfl (Src.pairP p0 p1) (by simp [Value.oneCell']) ?c3 ?c4 ?_)
        case c3 => unfold maxLen; omega
        case c4 => omega
        intro vY wY hownY hgY hatY
        have S9 := S8.out.own_push (i := 3) rfl (bb _) hownY hgY (by simpa using hatY)
        obtain ⟨aY, cY, rfl⟩ := own_slice hownY
        have S10 := Lib.hid (Sp.pick (qs := [Own 3 1 (.slice D2 a2.length dc2) a2.length (a2.map (.int .i64)), PairRow aY (m + 1) cY (us ++ [.int .i64 l, .int .i64 i]), Box w.heap.size 33 #[.slice D2 a2.length dc2]]) [1, 2, 2] S9 rfl)
        clear S8 S9 hown hownY hgY hatY p0 p1 f6 c6
        have hme2 := Lib.hid (lenAt0_of (S10.out.cell (i := 2) rfl (o := 0) rfl))
        obtain ⟨m2, hm2⟩ : ∃ m2, m + 1 = m2 := ⟨_, rfl⟩
        rw [hm2] at S10 ⊢
        replace hm2 := Lib.hid hm2
        go_wp2_with fail
        go_roundw
        case rel => exact ⟨a2, D2, aY, dc2, m2, cY, _, rfl, by have := hm2.out; have := hsl.out; omega, ha3.out, ha2, S10⟩
        case measure => rw [hme2.out, hmea.out, hsl.out]; omega

set_option maxRecDepth 100000 in
set_option maxHeartbeats 4000000 in
theorem implPropagate_any (n : Nat) (X : List (List Int)) (hgd : goodB n X = true) (A B : Option Addr) (cc ac : Nat) (hac : ac ≤ 1000) (F : List Nat) (w : World) (hx : (Ty.slice Ty.int).row false w (.slice A X.length cc) X F) :
    Calls Tryz.prog 19 #[.agg #[.int .i64 n, .slice A X.length cc], .slice B 0 ac] w fun e w' => ∃ (D : Option Addr) (dn dc : Nat) (q : Bool), e = .returned (.tuple #[.slice D dn dc, .bool q, .bool true]) ∧ Below w.heap.size w w' ∧ (q = false → ∃ a, clauseB n a = true ∧ (∀ c ∈ X, 0 ≤ valPg c a) ∧ ∀ c ∈ X, unitPg c a = 0) := by
  have hg := good_cnf hgd
  have h0 : clauseB n [] = true := good_clauseP (by omega) ⟨by simp, by simp⟩ (by simp)
  have S0 := (Sp.start w).alloc_box #[.int .i64 n, .slice A X.length cc] 29
  have c0 := S0.cell (i := 0) rfl (o := 0) rfl
  have c1 := S0.cell (i := 0) rfl (o := 1) rfl
  have hcn := implIsCnf_any n _ X F _ (Ty.row_below hx S0.below (Ty.row_lt hx))
  rw [hgd] at hcn
  replace hcn := Lib.hid hcn
  obtain ⟨_, _, e1, hI⟩ := cls_row hx
  cases e1
  have has := Lib.hid (fun W => implIsAssignment_any n (.slice B 0 ac) [] [] W (Ty.row_nil _ _ _ _ _ (by omega)))
  rw [h0] at has
  have hpr := Lib.hid (fun W (h : Below w.heap.size w W) => propagate_any n X hgd [] h0 A B cc ac W (hI.grow h) (ints_no _ _))
  replace S0 := Lib.hid S0
  clear hx hI hg hgd h0
  go_enter Tryz.func19, Tryz.ntmps19
  go_wp2_with fail
  refine hcn.out.mono ?_
  rintro e w1 ⟨rfl, hb1⟩
  have S1 := Lib.hid (S0.out.grow hb1)
  have k0 := S1.out.cell (i := 0) rfl (o := 0) rfl
  clear S0 hcn hb1 c0 c1
  go_wp2_with fail
  refine (has.out _).mono ?_
  rintro e w2 ⟨rfl, hb2⟩
  have S2 := Lib.hid (S1.out.grow hb2)
  have k1 := S2.out.cell (i := 0) rfl (o := 1) rfl
  clear S1 has hb2 k0
  go_wp2_with fail
  refine (hpr.out _ S2.out.below).mono ?_
  rintro e w3 ⟨D, E, dn, dc, m, ec, q, rfl, hb3, hq⟩
  have hfin := Lib.hid (And.intro (btr S2.out.below hb3) hq)
  clear S2 hpr hb3 hq k1
  go_wp2_with fail
  exact bodyPost_ret (v := .tuple #[.slice D dn dc, .bool q, .bool true]) (by simp [results, Tryz.results19, go_sem]) rfl ⟨D, dn, dc, q, rfl, hfin.out⟩
end Go.Proofs.YtnfjgebfmnpkbaaGreat

/- Contract: the formula of a graph, in the program. -/
namespace Go.Proofs.YtnfjgebfmnpkbaaGreat
open Go.RowKit

def pebV (D : List (List Int)) : Int := if dagB D then D.length else 0
def pebY (D : List (List Int)) : List (List Int) := if dagB D then pebX D else []
theorem peb_dist {v : Nat} {l : List Int} (h : preB v l = true) (hv : v ≤ 12) : DistS 1000 (pebC v l) := by
  obtain ⟨hg, -⟩ := peb_good h hv
  have ha := hg.asc
  unfold pebG at ha
  rw [List.pairwise_append] at ha
  refine ⟨fun x hx => ?_, ?_⟩
  · have hl := hg.mem x (pebC_mem.1 hx)
    refine ⟨hl, ?_⟩
    rw [hl.abs]
    unfold LitS at hl
    split <;> omega
  · unfold pebC
    refine List.pairwise_cons.2 ⟨fun a hm => ?_, ha.1.imp fun h => by unfold AscS at h; omega⟩
    have := ha.2.2 a hm _ (List.mem_singleton.2 rfl)
    unfold AscS at this; omega
theorem peb_fold {v : Nat} {l : List Int} (h : preB v l = true) (hv : v ≤ 12) : foldJ (pebC v l) = pebG v l := by
  have hd := peb_dist h hv
  have h1 := (dist_clause hd (by decide)).1
  rw [peb_clause h hv] at h1
  rw [foldJ_eq hd (by decide)]
  exact (Option.some.inj h1).symm
theorem pebC_take {v : Nat} {l : List Int} {k : Nat} (hk : k < l.length) : pebC v (l.take (k + 1)) = pebC v (l.take k) ++ [-l[k] - 1] := by
  unfold pebC; rw [List.take_succ_eq_append_getElem hk, List.map_append]; rfl
theorem pebC_len (v : Nat) (l : List Int) : (pebC v l).length = l.length + 1 := by simp [pebC]
theorem Sp.own_oneP {w0 w : World} {ps : List Asn} (h : Sp w0 w ps) (a : Int) : Sp w0 (w.alloc (.cells #[.int .i64 a] 3)) (Own 3 1 (.slice (some ⟨w.heap.size, 0, none⟩) ([a] : List Int).length 1) ([a] : List Int).length (([a] : List Int).map (.int .i64)) :: ps) :=
  h.own_new (bal (bb w) _) ⟨rfl, .inr ⟨w.heap.size, 1, #[.int .i64 a], rfl, Nat.zero_le _, heap_alloc_new w _, Nat.le_refl _, by decide, by simp, by simp⟩⟩ (fun g hg => by
    have : w.heap.size = g := by simpa [Value.ownBlock] using hg
    omega)

set_option maxRecDepth 100000 in
set_option maxHeartbeats 8000000 in
theorem implPebbling_any (hmc0 : MustC) (A : Option Addr) (cap : Nat) (D : List (List Int)) (w : World) (hx : ClsAt w A D) (hl : D.length ≤ 1000) (hs : ∀ l ∈ D, l.length ≤ 1000) :
    Calls Tryz.prog 6 #[.agg #[.slice A D.length cap]] w (CnfR w (pebV D) (pebY D) (dagB D)) := by
  obtain ⟨i0, hi0, hy0, hy1, hy2⟩ := info_parts infoInt
  have S0 := ((Sp.start w).alloc_box #[.slice A D.length cap] 26).alloc_box #[.int .i64 0, .slice none 0 0] 29
  simp only [World.size_alloc] at S0
  have c0 := S0.cell (i := 1) rfl (o := 0) rfl
  have hX := Lib.hid hx
  have hmc := Lib.hid hmc0
  have hic := implIsDag_any A cap D _ (hx.grow S0.below) hl hs
  unfold pebV pebY
  cases h : dagB D with
  | false =>
    rw [h] at hic
    rw [if_neg (by simp), if_neg (by simp)]
    replace hic := Lib.hid hic
    replace S0 := Lib.hid S0
    clear h hx
    go_enter Tryz.func6, Tryz.ntmps6
    go_wp2_with fail
    refine hic.out.mono ?_
    rintro e w1 ⟨rfl, hb1⟩
    have Sb := S0.out.grow hb1
    have f0 := Sb.frozen (i := 0) rfl 0
    have f1 := Sb.frozen (i := 0) rfl 1
    have k0 := Sb.cell (i := 0) rfl (o := 0) rfl
    have k1 := Sb.cell (i := 0) rfl (o := 1) rfl
    have SF := (Sb.store (i := 0) rfl 0 (.int .i64 0)).store (i := 0) rfl 1 (.slice none 0 0)
    have j0 := SF.cell (i := 0) rfl (o := 0) rfl
    have j1 := SF.cell (i := 0) rfl (o := 1) rfl
    have hB := Lib.hid SF.below
    clear S0 hic hb1 c0 Sb SF
    go_wp2_with fail
    exact bodyPost_ret (v := .tuple #[.agg #[.int .i64 0, .slice none 0 0], .bool false]) (by simp [results, Tryz.results6, go_sem, j0, j1]) rfl ⟨none, 0, [], rfl, Ty.row_nil _ _ _ _ _ (by decide), hB.out⟩
  | true =>
    rw [h] at hic
    rw [if_pos rfl, if_pos rfl]
    replace hic := Lib.hid hic
    have hgd := Lib.hid (peb_goodB h)
    obtain ⟨h10, hpre⟩ := dag_parts h
    replace hpre := Lib.hid hpre
    clear h hx
    replace S0 := Lib.hid S0
    have hXd : Hid (pebX D = pebT D D.length ++ [[-(D.length : Int)]]) := rfl
    have hnw : IntKind.i64.wrap (-(D.length : Int)) = -(D.length : Int) := IntWalk.i64_in _ (by omega)
    go_enter Tryz.func6, Tryz.ntmps6
    go_wp2_with fail
    refine hic.out.mono ?_
    rintro e w1 ⟨rfl, hb1⟩
    have S1 := ((S0.out.grow hb1).alloc_box #[.int .i64 D.length, .slice none 0 0] 50).rows_nil Ty.int 33
    have c1 := S1.cell (i := 3) rfl (o := 0) rfl
    have c2 := (S0.out.grow hb1).cell (i := 1) rfl (o := 0) rfl
    obtain ⟨fb, hfb⟩ : ∃ fb, w1.heap.size = fb := ⟨_, rfl⟩
    rw [hfb] at S1
    have S2 : Hid (Sp w (w1.alloc (.cells #[.int .i64 D.length, .slice none 0 0] 50)) (FamP fb D.length none 0 [] (pebT D 0) [Box (w.heap.size + 1) 29 #[.int .i64 0, .slice none 0 0], Box w.heap.size 26 #[.slice A D.length cap]])) := S1
    clear S0 hic hb1 c0 S1
    go_wp2_with fail
    (try rw [hfb])
    replace hfb := Lib.hid hfb
    clear c1 c2
    generalize w1.alloc (.cells #[.int .i64 D.length, .slice none 0 0] 50) = w2 at *
    go_loopw [22] (fun v22 wr => ∃ (i : Nat) (B' : Option Addr) (c' : Nat) (cs' : List Value), i ≤ D.length ∧ v22 = .int .i64 i ∧ Hid (Sp w wr (FamP fb D.length B' c' cs' (pebT D i) [Box (w.heap.size + 1) 29 #[.int .i64 0, .slice none 0 0], Box w.heap.size 26 #[.slice A D.length cap]]))) (fun v22 _ => D.length - (intOf v22).toNat)
    case atStart => exact ⟨0, none, 0, [], Nat.zero_le _, rfl, S2⟩
    case round =>
      clear S2
      obtain ⟨i, B', c', cs', hi, rfl, HS⟩ := hrel
      by_cases hlt : i < D.length
      · obtain ⟨b, off, E, dc, hA, m00, hI00⟩ := hX.out.at_ i hlt
        subst hA
        have m0 := (HS.out.below.cell (World.block_lt_of_cell? _ _ m00)).trans m00
        have hI0 := Lib.hid hI00
        have hpi := hpre.out i hlt
        have hpx := Lib.hid (rsg_mem hpi)
        have hpl := pre_len hpi
        have hcg := Lib.hid (peb_good hpi (by omega)).1
        have hcl := Lib.hid (peb_clause hpi (by omega))
        have hmm : Hid (∀ x, x ∈ pebC i D[i] ↔ x ∈ pebG i D[i]) := fun x => pebC_mem
        have hst := Lib.hid (pebT_succ hlt)
        have htl := pebT_len D i
        have htk := Lib.hid (fun k (hk : k < D[i].length) => pebC_take (v := i) hk)
        have hcn := Lib.hid (fun l => pebC_len i l)
        have hc0 : Hid (pebC i (D[i].take 0) = [(i : Int) + 1]) := rfl
        have hcf : Hid (pebC i (D[i].take D[i].length) = pebC i D[i]) := by unfold Hid; rw [List.take_length]
        generalize D[i] = l at *
        generalize pebT D i = X at *
        have S3 : Hid (Sp w (wr.alloc (.cells #[.int .i64 ((i : Int) + 1)] 3)) (Own 3 1 (.slice (some ⟨wr.heap.size, 0, none⟩) (pebC i (l.take 0)).length 1) (pebC i (l.take 0)).length ((pebC i (l.take 0)).map (.int .i64)) :: FamP fb D.length B' c' cs' X [Box (w.heap.size + 1) 29 #[.int .i64 0, .slice none 0 0], Box w.heap.size 26 #[.slice (some ⟨b, off, none⟩) D.length cap]])) := by
          rw [hc0.out]; exact HS.out.own_oneP ((i : Int) + 1)
        clear m00 hI00 HS hpi
        rename World => wo
        go_wp2_with fail
        clear m0
        go_loopw [7, 32] (fun v7 v32 wr => ∃ (k : Nat) (E : Option Addr) (ec : Nat) (ys : List Int), k ≤ l.length ∧ v32 = .int .i64 k ∧ v7 = .slice E ys.length ec ∧ Hid (ys = pebC i (l.take k)) ∧ Hid (Sp w wr (Own 3 1 (.slice E ys.length ec) ys.length (ys.map (.int .i64)) :: FamP fb D.length B' c' cs' X [Box (w.heap.size + 1) 29 #[.int .i64 0, .slice none 0 0], Box w.heap.size 26 #[.slice (some ⟨b, off, none⟩) D.length cap]]))) (fun _ v32 _ => l.length - (intOf v32).toNat)
        case atStart => exact ⟨0, _, 1, _, Nat.zero_le _, rfl, by rw [hc0.out]; rfl, rfl, S3⟩
        case round =>
          clear S3
          obtain ⟨k, E2, ec, ys, hk, rfl, rfl, hys, HS⟩ := hrel
          by_cases hlt2 : k < l.length
          · obtain ⟨b2, o2, hE, m22⟩ := hI0.out.at_ k hlt2
            subst hE
            have mc := (HS.out.below.cell (World.block_lt_of_cell? _ _ m22)).trans m22
            have hb := hpx.out _ (List.getElem_mem hlt2)
            have htk' := htk.out k hlt2
            have hyl : ys.length ≤ 20 := by rw [hys.out, hcn.out, List.length_take]; omega
            generalize l[k] = p at *
            have hw1 : IntKind.i64.wrap (-p) = -p := IntWalk.i64_in _ (by omega)
            have hw2 : IntKind.i64.wrap (-p - 1) = -p - 1 := IntWalk.i64_in _ (by omega)
            have hn2 : Hid (ys ++ [-p - 1] = pebC i (l.take (k + 1))) := by unfold Hid; rw [htk', hys.out]
            clear m22 htk' hys
            have S3 := HS.out.alloc_box #[.int .i64 (-p - 1)] 3
            (try simp only [World.size_setCell] at S3)
            have kB := S3.cell (i := 0) rfl (o := 0) rfl
            replace S3 := Lib.hid S3
            clear HS
            go_wp2_with (at_builtin; refine wpList_append_src rfl _ _ rfl Tryz.underlying33 hi0 hy0 hy1 hy2 rfl (by decide) _ _ _ rfl (S3.out.own (i := 1) rfl) _ 1 1 [.int .i64 (-p - 1)] rfl (Src.one kB) (by simp [Value.oneCell']) ?c3 ?c4 ?_)
            case c3 => unfold maxLen; omega
            case c4 => omega
            intro vY wY hownY hgY hatY
            have S4 := (S3.out.own_push (i := 1) rfl (bb _) hownY hgY (by simpa using hatY)).tail
            obtain ⟨aY, cY, rfl⟩ := own_slice hownY
            have S5 := Lib.hid (ownI_snoc (d := ys) (x := (-p - 1)) S4)
            clear S3 S4 kB hownY hgY hatY
            have hlen : ys.length + 1 = (ys ++ [(-p - 1)]).length := by simp
            rw [hlen]
            replace hlen := Lib.hid hlen
            clear hlen
            go_wp2_with fail
            go_roundw
            case rel => exact ⟨k + 1, aY, cY, ys ++ [-p - 1], by omega, by go_num, by simp, hn2, S5⟩
            case measure => simp [intOf]; omega
          · obtain rfl : k = l.length := by omega
            rw [hcf.out] at hys
            have hlits : ∀ x ∈ ys, LitS x := fun x hx => by rw [hys.out] at hx; exact hcg.out.mem x ((hmm.out x).1 hx)
            have hLi := HS.out.ints (i := 0) rfl (fun x hx => (hlits x hx).i64)
            have hyl : ys.length ≤ 20 := by rw [hys.out, hcn.out]; omega
            have hmu := fun W' (h : Below wr.heap.size wr W') => hmc.out ys E2 ec W' (hLi.grow h) hlits (by omega)
            rw [hys.out, hcl.out, Option.getD_some, ← hys.out] at hmu
            have hadd := Lib.hid (famAdd_any fb D.length B' c' cs' X [Box (w.heap.size + 1) 29 #[.int .i64 0, .slice none 0 0], Box w.heap.size 26 #[.slice (some ⟨b, off, none⟩) D.length cap]] w wr (pebG i l) E2 ys.length ec hmu (fun x hx => (hcg.out.mem x hx).i64) (by omega) HS.out.tail)
            rw [← hst.out] at hadd
            clear hmu hLi HS hlits
            go_wp2_with fail
            refine hadd.out.mono ?_
            rintro e w3 ⟨rfl, B3, c3, cs3, S4⟩
            replace S4 := Lib.hid S4
            clear hadd
            go_wp2_with fail
            go_roundw
            case rel => exact ⟨i + 1, B3, c3, cs3, by omega, by go_num, S4⟩
            case measure => simp [intOf]; omega
      · obtain rfl : i = D.length := by omega
        have htl := pebT_len D D.length
        generalize pebT D D.length = X at *
        have S3 := HS.out.alloc_box #[.int .i64 (-(D.length : Int))] 3
        have hg1 : GoodS [-(D.length : Int)] := ⟨fun x hx => by obtain rfl := List.mem_singleton.1 hx; unfold LitS; omega, by simp⟩
        have hLi : IntsAt (wr.alloc (.cells #[.int .i64 (-(D.length : Int))] 3)) (some ⟨wr.heap.size, 0, none⟩) [-(D.length : Int)] := ⟨fun j hj => by
          obtain rfl : j = 0 := by simpa using hj
          exact ⟨_, _, rfl, S3.cell (i := 0) rfl (o := 0) rfl⟩, fun y hy => (hg1.mem y hy).i64⟩
        have hmu := fun W' h => hmc.out [-(D.length : Int)] (some ⟨wr.heap.size, 0, none⟩) 1 W' (hLi.grow h) hg1.mem (by simp)
        rw [clauseR_self hg1, Option.getD_some] at hmu
        have hadd := Lib.hid (famAdd_any fb D.length B' c' cs' X [Box (w.heap.size + 1) 29 #[.int .i64 0, .slice none 0 0], Box w.heap.size 26 #[.slice A D.length cap]] w _ [-(D.length : Int)] (some ⟨wr.heap.size, 0, none⟩) 1 1 hmu (fun x hx => (hg1.mem x hx).i64) (by omega) S3.tail)
        rw [← hXd.out] at hadd
        have c0 := HS.out.cell (i := 3) rfl (o := 0) rfl
        clear hmu hLi HS S3 hg1
        go_wp2_with fail
        refine hadd.out.mono ?_
        rintro e w3 ⟨rfl, B3, c3, cs3, S4⟩
        clear hadd c0
        generalize pebX D = xss at *
        have p0 := S4.cell (i := 1) rfl (o := 0) rfl
        have p1 := S4.cell (i := 1) rfl (o := 1) rfl
        obtain ⟨F, hr, -, -⟩ := S4.rows_done (i := 0) rfl
        have hcn := Lib.hid (famCnf_any fb D.length B3 c3 xss F w3 p0 p1 (Ty.row_down hr))
        have HS2 := Lib.hid S4
        clear S4 hr p0 p1
        go_wp2_with fail
        refine hcn.out.mono ?_
        rintro e w4 ⟨va, A', n', c'', rfl, hb4, h1, -⟩
        obtain ⟨rfl, rfl, rfl, rfl⟩ := h1 hgd.out
        rw [hgd.out]
        have S5 := HS2.out.grow hb4
        have r0 := S5.cell (i := 2) rfl (o := 0) rfl
        have r1 := S5.cell (i := 2) rfl (o := 1) rfl
        have f0 := S5.frozen (i := 2) rfl 0
        have f1 := S5.frozen (i := 2) rfl 1
        have SF := (S5.store (i := 2) rfl 0 (.int .i64 D.length)).store (i := 2) rfl 1 (.slice A' xss.length c'')
        have j0 := SF.cell (i := 2) rfl (o := 0) rfl
        have j1 := SF.cell (i := 2) rfl (o := 1) rfl
        have SF2 := Lib.hid (Sp.pick [0] SF rfl)
        clear HS2 S5 SF hcn hb4 h1
        go_wp2_with fail
        exact bodyPost_ret (v := .tuple #[.agg #[.int .i64 D.length, .slice A' xss.length c''], .bool true]) (by simp [results, Tryz.results6, go_sem, j0, j1]) rfl (by
          have := CnfR.of (vars := D.length) (va := D.length) SF2.out (fun _ => ⟨rfl, rfl, rfl, rfl⟩) (fun h => by rw [hgd.out] at h; cases h)
          rw [(give_yes hgd.out).1, (give_yes hgd.out).2, hgd.out] at this
          exact this)
end Go.Proofs.YtnfjgebfmnpkbaaGreat

/- Contract: the formula of a graph, in the reference. -/
namespace Go.Proofs.YtnfjgebfmnpkbaaGreat
open Go.RowKit

set_option maxRecDepth 100000 in
set_option maxHeartbeats 8000000 in
theorem l14Formula_any (A : Option Addr) (cap : Nat) (D : List (List Int)) (w : World) (hx : ClsAt w A D) (hl : D.length ≤ 1000) (hs : ∀ l ∈ D, l.length ≤ 1000) (h : dagB D = true) :
    Calls Tryz.prog 27 #[.agg #[.slice A D.length cap]] w (AddP w [] D.length (pebX D)) := by
  obtain ⟨i0, hi0, hy0, hy1, hy2⟩ := info_parts infoInt
  have S0 := ((Sp.start w).alloc_box #[.slice A D.length cap] 26).alloc_box #[.int .i64 0, .slice none 0 0] 29
  simp only [World.size_alloc] at S0
  have c0 := S0.cell (i := 1) rfl (o := 0) rfl
  have hX := Lib.hid hx
  have hn4 := Lib.hid (fun W => l4New_any D.length W)
  obtain ⟨h10, hpre⟩ := dag_parts h
  replace hpre := Lib.hid hpre
  clear h hx
  replace S0 := Lib.hid S0
  have hXd : Hid (pebX D = pebT D D.length ++ [[-(D.length : Int)]]) := rfl
  have hnw : IntKind.i64.wrap (-(D.length : Int)) = -(D.length : Int) := IntWalk.i64_in _ (by omega)
  go_enter Tryz.func27, Tryz.ntmps27
  go_wp2_with fail
  refine (hn4.out _).mono ?_
  rintro e w2 ⟨B0, cc0, rfl, T⟩
  have S1 := (S0.out.seq T).alloc_box #[.int .i64 D.length, .slice B0 0 cc0] 29
  have c1 := S1.cell (i := 3) rfl (o := 0) rfl
  obtain ⟨g, hg⟩ : ∃ g, w2.heap.size = g := ⟨_, rfl⟩
  rw [hg] at S1
  have S2 : Hid (Sp w (w2.alloc (.cells #[.int .i64 D.length, .slice B0 0 cc0] 29)) [Rows Ty.int 33 (.slice B0 (pebT D 0).length cc0) [] (pebT D 0), Box g 29 #[.int .i64 D.length, .slice B0 (pebT D 0).length cc0], Box (w.heap.size + 1) 29 #[.int .i64 0, .slice none 0 0], Box w.heap.size 26 #[.slice A D.length cap]]) := Sp.pick [1, 0, 0, 0] S1 rfl
  clear S1 T S0 hn4 c0
  go_wp2_with fail
  (try rw [hg])
  replace hg := Lib.hid hg
  clear c1
  generalize w2.alloc (.cells #[.int .i64 D.length, .slice B0 0 cc0] 29) = w3 at *
  go_loopw [4] (fun v4 wr => ∃ (i : Nat) (B' : Option Addr) (c' : Nat) (cs' : List Value), i ≤ D.length ∧ v4 = .int .i64 i ∧ Hid (Sp w wr [Rows Ty.int 33 (.slice B' (pebT D i).length c') cs' (pebT D i), Box g 29 #[.int .i64 D.length, .slice B' (pebT D i).length c'], Box (w.heap.size + 1) 29 #[.int .i64 0, .slice none 0 0], Box w.heap.size 26 #[.slice A D.length cap]])) (fun v4 _ => D.length - (intOf v4).toNat)
  case atStart => exact ⟨0, B0, cc0, [], Nat.zero_le _, rfl, S2⟩
  case round =>
    clear S2
    obtain ⟨i, B', c', cs', hi, rfl, HS⟩ := hrel
    have c0 := HS.out.cell (i := 3) rfl (o := 0) rfl
    by_cases hlt : i < D.length
    · obtain ⟨b, off, E, dc, hA, m00, hI00⟩ := hX.out.at_ i hlt
      subst hA
      have m0' := Lib.hid m00
      have hI0 := Lib.hid hI00
      have hpi := hpre.out i hlt
      have hpx := Lib.hid (rsg_mem hpi)
      have hpl := pre_len hpi
      have hcg := Lib.hid (peb_good hpi (by omega)).1
      have hcd := Lib.hid (peb_dist hpi (by omega))
      have hcf' := Lib.hid (peb_fold hpi (by omega))
      have hst := Lib.hid (pebT_succ hlt)
      have htl := pebT_len D i
      have htk := Lib.hid (fun k (hk : k < D[i].length) => pebC_take (v := i) hk)
      have hcn := Lib.hid (fun l => pebC_len i l)
      have hc0 : Hid (pebC i (D[i].take 0) = [(i : Int) + 1]) := rfl
      have hcf : Hid (pebC i (D[i].take D[i].length) = pebC i D[i]) := by unfold Hid; rw [List.take_length]
      generalize D[i] = l at *
      generalize pebT D i = X at *
      have hXl : X.length ≤ 10 := by omega
      replace htl := Lib.hid htl
      have S3 : Hid (Sp w (wr.alloc (.cells #[.int .i64 ((i : Int) + 1)] 3)) (Own 3 1 (.slice (some ⟨wr.heap.size, 0, none⟩) (pebC i (l.take 0)).length 1) (pebC i (l.take 0)).length ((pebC i (l.take 0)).map (.int .i64)) :: [Rows Ty.int 33 (.slice B' X.length c') cs' X, Box g 29 #[.int .i64 D.length, .slice B' X.length c'], Box (w.heap.size + 1) 29 #[.int .i64 0, .slice none 0 0], Box w.heap.size 26 #[.slice (some ⟨b, off, none⟩) D.length cap]])) := by
        rw [hc0.out]; exact HS.out.own_oneP ((i : Int) + 1)
      clear m00 hI00 HS hpi
      rename World => wo
      go_wp2_with fail
      clear c0
      go_loopw [5, 6] (fun v5 v6 wr => ∃ (k : Nat) (E : Option Addr) (ec : Nat) (ys : List Int), k ≤ l.length ∧ v6 = .int .i64 k ∧ v5 = .slice E ys.length ec ∧ Hid (ys = pebC i (l.take k)) ∧ Hid (Sp w wr (Own 3 1 (.slice E ys.length ec) ys.length (ys.map (.int .i64)) :: [Rows Ty.int 33 (.slice B' X.length c') cs' X, Box g 29 #[.int .i64 D.length, .slice B' X.length c'], Box (w.heap.size + 1) 29 #[.int .i64 0, .slice none 0 0], Box w.heap.size 26 #[.slice (some ⟨b, off, none⟩) D.length cap]]))) (fun _ v6 _ => l.length - (intOf v6).toNat)
      case atStart => exact ⟨0, _, 1, _, Nat.zero_le _, rfl, by rw [hc0.out]; rfl, rfl, S3⟩
      case round =>
        clear S3
        obtain ⟨k, E2, ec, ys, hk, rfl, rfl, hys, HS⟩ := hrel
        have c0 := HS.out.cell (i := 4) rfl (o := 0) rfl
        have m0 := (HS.out.below.cell (World.block_lt_of_cell? _ _ m0'.out)).trans m0'.out
        by_cases hlt2 : k < l.length
        · obtain ⟨b2, o2, hE, m22⟩ := hI0.out.at_ k hlt2
          subst hE
          have mc := (HS.out.below.cell (World.block_lt_of_cell? _ _ m22)).trans m22
          have hb := hpx.out _ (List.getElem_mem hlt2)
          have htk' := htk.out k hlt2
          have hyl : ys.length ≤ 20 := by rw [hys.out, hcn.out, List.length_take]; omega
          generalize l[k] = p at *
          have hw1 : IntKind.i64.wrap (-p) = -p := IntWalk.i64_in _ (by omega)
          have hw2 : IntKind.i64.wrap (-p - 1) = -p - 1 := IntWalk.i64_in _ (by omega)
          have hn2 : Hid (ys ++ [-p - 1] = pebC i (l.take (k + 1))) := by unfold Hid; rw [htk', hys.out]
          clear m22 htk' hys
          have S3 := HS.out.alloc_box #[.int .i64 (-p - 1)] 3
          (try simp only [World.size_setCell] at S3)
          have kB := S3.cell (i := 0) rfl (o := 0) rfl
          replace S3 := Lib.hid S3
          clear HS
          go_wp2_with (at_builtin; refine wpList_append_src rfl _ _ rfl Tryz.underlying33 hi0 hy0 hy1 hy2 rfl (by decide) _ _ _ rfl (S3.out.own (i := 1) rfl) _ 1 1 [.int .i64 (-p - 1)] rfl (Src.one kB) (by simp [Value.oneCell']) ?c3 ?c4 ?_)
          case c3 => unfold maxLen; omega
          case c4 => omega
          intro vY wY hownY hgY hatY
          have S4 := (S3.out.own_push (i := 1) rfl (bb _) hownY hgY (by simpa using hatY)).tail
          obtain ⟨aY, cY, rfl⟩ := own_slice hownY
          have S5 := Lib.hid (ownI_snoc (d := ys) (x := (-p - 1)) S4)
          clear S3 S4 kB hownY hgY hatY
          have hlen : ys.length + 1 = (ys ++ [(-p - 1)]).length := by simp
          rw [hlen]
          replace hlen := Lib.hid hlen
          clear hlen c0 m0 mc
          go_wp2_with fail
          go_roundw
          case rel => exact ⟨k + 1, aY, cY, ys ++ [-p - 1], by omega, by go_num, by simp, hn2, S5⟩
          case measure => simp [intOf]; omega
        · obtain rfl : k = l.length := by omega
          rw [hcf.out] at hys
          have hys' := hys.out
          have hyl : ys.length ≤ 20 := by rw [hys.out, hcn.out]; omega
          have hds : DistS 1000 ys := by rw [hys']; exact hcd.out
          have hfo : foldJ ys = pebG i l := by rw [hys']; exact hcf'.out
          have hLi := HS.out.ints (i := 0) rfl (fun x hx => (hds.mem x hx).1.i64)
          have hof := fun W' (h : Below wr.heap.size wr W') => l2OfD_any ys E2 ec W' (hLi.grow h) hds (by omega)
          rw [hfo] at hof
          have g0 := HS.out.cell (i := 2) rfl (o := 0) rfl
          have g1 := HS.out.cell (i := 2) rfl (o := 1) rfl
          have hadd := l4AddD_any D.length B' c' cs' X [Box g 29 #[.int .i64 D.length, .slice B' X.length c'], Box (w.heap.size + 1) 29 #[.int .i64 0, .slice none 0 0], Box w.heap.size 26 #[.slice (some ⟨b, off, none⟩) D.length cap]] w wr ys E2 ec (pebG i l) hof (fun x hx => (hcg.out.mem x hx).i64) (by omega) HS.out.tail
          rw [capL_all (X := X ++ [pebG i l]) (by rw [List.length_append, List.length_singleton]; omega), ← hst.out] at hadd
          replace hadd := Lib.hid hadd
          clear hof hLi HS hds hfo hys'
          go_wp2_with fail
          refine hadd.out.mono ?_
          rintro e w4 ⟨B3, c3, cs3, rfl, S4⟩
          have f0 := S4.frozen (i := 1) rfl 0
          have f1 := S4.frozen (i := 1) rfl 1
          have p0 := S4.cell (i := 1) rfl (o := 0) rfl
          have p1 := S4.cell (i := 1) rfl (o := 1) rfl
          have S5 := Lib.hid ((S4.store (i := 1) rfl 0 (.int .i64 D.length)).store (i := 1) rfl 1 (.slice B3 (pebT D (i + 1)).length c3))
          clear hadd S4 g0 g1 c0 m0
          go_wp2_with fail
          go_roundw
          case rel => exact ⟨i + 1, B3, c3, cs3, by omega, by go_num, S5⟩
          case measure => simp [intOf]; omega
    · obtain rfl : i = D.length := by omega
      have htl := pebT_len D D.length
      generalize pebT D D.length = X at *
      have hXl : X.length ≤ 10 := by omega
      replace htl := Lib.hid htl
      have S3 := HS.out.alloc_box #[.int .i64 (-(D.length : Int))] 3
      have hg1 : GoodS [-(D.length : Int)] := ⟨fun x hx => by obtain rfl := List.mem_singleton.1 hx; unfold LitS; omega, by simp⟩
      have hLi : IntsAt (wr.alloc (.cells #[.int .i64 (-(D.length : Int))] 3)) (some ⟨wr.heap.size, 0, none⟩) [-(D.length : Int)] := ⟨fun j hj => by
        obtain rfl : j = 0 := by simpa using hj
        exact ⟨_, _, rfl, S3.cell (i := 0) rfl (o := 0) rfl⟩, fun y hy => (hg1.mem y hy).i64⟩
      have g0 := HS.out.cell (i := 1) rfl (o := 0) rfl
      have g1 := HS.out.cell (i := 1) rfl (o := 1) rfl
      have hadd := l4Add_any D.length B' c' cs' X [Box g 29 #[.int .i64 D.length, .slice B' X.length c'], Box (w.heap.size + 1) 29 #[.int .i64 0, .slice none 0 0], Box w.heap.size 26 #[.slice A D.length cap]] w _ [-(D.length : Int)] (some ⟨wr.heap.size, 0, none⟩) 1 hLi hg1 (by simp) (by omega) S3.tail
      rw [capL_all (X := X ++ [[-(D.length : Int)]]) (by rw [List.length_append, List.length_singleton]; omega), ← hXd.out] at hadd
      replace hadd := Lib.hid hadd
      clear hLi HS S3 hg1
      go_wp2_with fail
      refine hadd.out.mono ?_
      rintro e w4 ⟨B3, c3, cs3, rfl, S4⟩
      have f0 := S4.frozen (i := 2) rfl 0
      have f1 := S4.frozen (i := 2) rfl 1
      have p0 := S4.cell (i := 2) rfl (o := 0) rfl
      have p1 := S4.cell (i := 2) rfl (o := 1) rfl
      have SF := (S4.store (i := 2) rfl 0 (.int .i64 D.length)).store (i := 2) rfl 1 (.slice B3 (pebX D).length c3)
      have j0 := SF.cell (i := 2) rfl (o := 0) rfl
      have j1 := SF.cell (i := 2) rfl (o := 1) rfl
      have SG := Lib.hid (Sp.pick [0] SF rfl)
      clear hadd S4 SF g0 g1 c0
      go_wp2_with fail
      exact bodyPost_ret (v := .agg #[.int .i64 D.length, .slice B3 (pebX D).length c3]) (by simp [results, Tryz.results27, go_sem, j0, j1]) rfl ⟨B3, c3, _, rfl, SG.out⟩

set_option maxRecDepth 100000 in
set_option maxHeartbeats 8000000 in
theorem specPebbling_any (A : Option Addr) (cap : Nat) (D : List (List Int)) (w : World) (hx : ClsAt w A D) (hl : D.length ≤ 1000) (hs : ∀ l ∈ D, l.length ≤ 1000) :
    Calls Tryz.prog 7 #[.agg #[.slice A D.length cap]] w (CnfR w (pebV D) (pebY D) (dagB D)) := by
  have S0 := ((Sp.start w).alloc_box #[.slice A D.length cap] 26).alloc_box #[.int .i64 0, .slice none 0 0] 29
  simp only [World.size_alloc] at S0
  have c0 := S0.cell (i := 1) rfl (o := 0) rfl
  have hX := Lib.hid hx
  have hic := l14Good_any A cap D _ (hx.grow S0.below) hl hs
  unfold pebV pebY
  cases h : dagB D with
  | false =>
    rw [h] at hic
    rw [if_neg (by simp), if_neg (by simp)]
    replace hic := Lib.hid hic
    replace S0 := Lib.hid S0
    clear h hx
    go_enter Tryz.func7, Tryz.ntmps7
    go_wp2_with fail
    refine hic.out.mono ?_
    rintro e w1 ⟨rfl, hb1⟩
    have Sb := S0.out.grow hb1
    have f0 := Sb.frozen (i := 0) rfl 0
    have f1 := Sb.frozen (i := 0) rfl 1
    have k0 := Sb.cell (i := 0) rfl (o := 0) rfl
    have k1 := Sb.cell (i := 0) rfl (o := 1) rfl
    have SF := (Sb.store (i := 0) rfl 0 (.int .i64 0)).store (i := 0) rfl 1 (.slice none 0 0)
    have j0 := SF.cell (i := 0) rfl (o := 0) rfl
    have j1 := SF.cell (i := 0) rfl (o := 1) rfl
    have hB := Lib.hid SF.below
    clear S0 hic hb1 c0 Sb SF
    go_wp2_with fail
    exact bodyPost_ret (v := .tuple #[.agg #[.int .i64 0, .slice none 0 0], .bool false]) (by simp [results, Tryz.results7, go_sem, j0, j1]) rfl ⟨none, 0, [], rfl, Ty.row_nil _ _ _ _ _ (by decide), hB.out⟩
  | true =>
    rw [h] at hic
    rw [if_pos rfl, if_pos rfl]
    replace hic := Lib.hid hic
    have hgd := Lib.hid (peb_goodB h)
    have hfm := Lib.hid (fun W (hb : Below w.heap.size w W) => l14Formula_any A cap D W (hX.out.grow hb) hl hs h)
    clear h hx
    replace S0 := Lib.hid S0
    go_enter Tryz.func7, Tryz.ntmps7
    go_wp2_with fail
    refine hic.out.mono ?_
    rintro e w1 ⟨rfl, hb1⟩
    have S1 := Lib.hid (S0.out.grow hb1)
    have c1 := S1.out.cell (i := 1) rfl (o := 0) rfl
    clear S0 hic hb1 c0
    go_wp2_with fail
    refine (hfm.out _ S1.out.below).mono ?_
    rintro e w2 ⟨B3, c3, cs3, rfl, T⟩
    have S4 := S1.out.seq T
    have f0 := S4.frozen (i := 1) rfl 0
    have f1 := S4.frozen (i := 1) rfl 1
    have p0 := S4.cell (i := 1) rfl (o := 0) rfl
    have p1 := S4.cell (i := 1) rfl (o := 1) rfl
    have SF := (S4.store (i := 1) rfl 0 (.int .i64 D.length)).store (i := 1) rfl 1 (.slice B3 (pebX D).length c3)
    have j0 := SF.cell (i := 1) rfl (o := 0) rfl
    have j1 := SF.cell (i := 1) rfl (o := 1) rfl
    have SG := Lib.hid (Sp.pick [0] SF rfl)
    generalize pebX D = xss at *
    clear S1 T S4 SF c1 hfm
    go_wp2_with fail
    exact bodyPost_ret (v := .tuple #[.agg #[.int .i64 D.length, .slice B3 xss.length c3], .bool true]) (by simp [results, Tryz.results7, go_sem, j0, j1]) rfl (by
      have := CnfR.of (vars := D.length) (va := D.length) SG.out (fun _ => ⟨rfl, rfl, rfl, rfl⟩) (fun h => by rw [hgd.out] at h; cases h)
      rw [(give_yes hgd.out).1, (give_yes hgd.out).2, hgd.out] at this
      exact this)
end Go.Proofs.YtnfjgebfmnpkbaaGreat
