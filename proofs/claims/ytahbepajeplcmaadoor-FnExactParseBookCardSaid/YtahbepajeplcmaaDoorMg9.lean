/- Lemmas and contracts for a law, put together out of several texts: BmB. -/
import Derived.Test.YtahbepajeplcmaaDoorMg3
/- Contracts: rows of records marked with values that are held afterwards. -/
namespace Go.Proofs.YtahbepajeplcmaaDoor
open Go.RowKit

/-- Records with marks. -/
def markRc (m n : Nat) : List Rec := (List.range n).map fun j => ⟨markB (m + 4 * j), ((m + 4 * j + 1 : Nat) : Int), ((m + 4 * j + 2 : Nat) : Int), ((m + 4 * j + 3 : Nat) : Int)⟩
theorem markRc_length (m n : Nat) : (markRc m n).length = n := by simp [markRc]
theorem markRc_get (m n j : Nat) (h : j < (markRc m n).length) : (markRc m n)[j] = ⟨markB (m + 4 * j), ((m + 4 * j + 1 : Nat) : Int), ((m + 4 * j + 2 : Nat) : Int), ((m + 4 * j + 3 : Nat) : Int)⟩ := by simp [markRc]
theorem markRc_ok {m n : Nat} (h : m + 4 * n ≤ 1000000000000) : ∀ x ∈ markRc m n, rcOk x := by
  intro x hx
  simp only [markRc, List.mem_map, List.mem_range] at hx
  obtain ⟨j, hj, rfl⟩ := hx
  have h1 := markB_len (m + 4 * j) (by omega)
  refine ⟨?_, ⟨?_, ?_⟩, ⟨?_, ?_⟩, ⟨?_, ?_⟩⟩ <;> dsimp only <;> omega

/-- The marked cell of number q. -/
def markV (m q : Nat) : Value := if q % 4 = 0 then .string (ms (markB (m + q))) else .int .i64 ((m + q : Nat) : Int)
def MarkRelC (b off m n k : Nat) (w wr : World) : Prop := (∀ q, q < n * 4 → ∃ u, cellIs true wr b (off + q) u ∧ (q < k → u = markV m q)) ∧ Chg [b] w wr
theorem MarkRelC.step {b off m n k : Nat} {w wr w1 : World} (h : MarkRelC b off m n k w wr) (hb : Below wr.heap.size wr w1) {u : Value} (hu : u = markV m k) :
    MarkRelC b off m n (k + 1) w (w1.setCell ⟨b, off + k, none⟩ u) := by
  refine ⟨fun q hq => ?_, (h.2.then hb).set (by simp) _⟩
  obtain ⟨v, hc0, hv⟩ := h.1 q hq
  have hc := hc0.keep (hb.block b hc0.lt)
  by_cases e : q = k
  · subst e
    exact ⟨u, ⟨by rw [World.cell?_setCell_same' _ _ _ (by rw [hc.1]; rfl)], fun _ => by rw [World.frozen?_setCell]; exact hc.2 rfl⟩, fun _ => hu⟩
  · exact ⟨v, ⟨by rw [World.cell?_setCell_other w1 _ _ _ (by simp only [ne_eq, Addr.mk.injEq]; omega)]; exact hc.1, fun _ => by rw [World.frozen?_setCell]; exact hc.2 rfl⟩, fun h => hv (by omega)⟩
theorem MarkRelC.cell {b off m n k : Nat} {w wr : World} (h : MarkRelC b off m n k w wr) {q : Nat} (hq : q < n * 4) : ∃ u, wr.cell? ⟨b, off + q, none⟩ = some u ∧ wr.frozen? ⟨b, off + q, none⟩ = false := by
  obtain ⟨u, hu, _⟩ := h.1 q hq
  exact ⟨u, hu.1, hu.2 rfl⟩
theorem MarkRelC.done {b off m cap n : Nat} {w wr : World} (h : MarkRelC b off m n (n * 4) w wr) (hne : 0 < n) (h1 : n ≤ cap) (h2 : cap ≤ 9223372036854775807) (hm : m + 4 * n ≤ 1000000000000) :
    rcTy.row true wr (.slice (some ⟨b, off, none⟩) n cap) (markRc m n) [b] := by
  have hl := markRc_length m n
  have := row_flat_mk (wr := true) (w := wr) (b := b) (off := off) (cap := cap) (n := 4) (enc := rcEnc) (good := rcOk) (hn := fun _ => rfl) (markRc_ok hm) (by rw [hl]; exact h1) h2 (fun e => by rw [e] at hl; simp at hl; omega) (by decide) (fun j hj i u hu => by
    rw [hl] at hj
    rw [markRc_get] at hu
    have hi : i < 4 := by have := (List.getElem?_eq_some_iff.1 hu).1; exact this
    obtain ⟨v, hc, hv⟩ := h.1 (j * 4 + i) (by omega)
    have e : v = u := by
      rw [hv (by omega)]
      unfold markV
      match i, hi, hu with
      | 0, _, hu => rw [if_pos (by omega), show m + (j * 4 + 0) = m + 4 * j by omega]; simpa [rcEnc] using hu
      | 1, _, hu => rw [if_neg (by omega), show m + (j * 4 + 1) = m + 4 * j + 1 by omega]; simpa [rcEnc] using hu
      | 2, _, hu => rw [if_neg (by omega), show m + (j * 4 + 2) = m + 4 * j + 2 by omega]; simpa [rcEnc] using hu
      | 3, _, hu => rw [if_neg (by omega), show m + (j * 4 + 3) = m + 4 * j + 3 by omega]; simpa [rcEnc] using hu
    rw [← e]; exact hc)
  rw [hl] at this
  exact this

set_option maxRecDepth 100000 in
set_option maxHeartbeats 2000000 in
theorem markRecordS_val (v : Value) (m : Nat) (xs : List Rec) (F : List Nat) (w : World) (hx : rcTy.row true w v xs F) (h0 : 0 < m) (h1 : m + 4 * xs.length ≤ 1000000000) :
    Calls Tryd.prog 10 #[v, .int .i64 m] w (MarkPost rcTy w v ((m + 4 * xs.length : Nat) : Int) (markRc m xs.length) F) := by
  obtain ⟨a, c, rfl, hx1, hx2, hg, hx3⟩ := row_flat hx
  rcases hx3 with ⟨rfl, rfl⟩ | ⟨_, hxn, b, off, rfl, rfl, hxc⟩
  · go_enter Tryd.func10, Tryd.ntmps10
    go_wp2_with fail
    refine wp_loop_rounds 1 ?_
    rw [rounds_succ]
    go_wp2_with fail
    go_ret
    exact ⟨ret_int (by simp), Ty.row_nil _ _ _ _ _ hx2, Chg.refl _ _⟩
  have hst : Hid (MarkRelC b off m xs.length 0 w w) := ⟨fun q hq => by
    have hj : q / 4 < xs.length := by omega
    have hi : q % 4 < 4 := Nat.mod_lt _ (by decide)
    obtain ⟨u, hu⟩ : ∃ u, (rcEnc xs[q / 4])[q % 4]? = some u := ⟨_, List.getElem?_eq_getElem (show q % 4 < (rcEnc xs[q / 4]).length from hi)⟩
    have := hxc (q / 4) hj (q % 4) u hu
    rw [show q / 4 * 4 + q % 4 = q by omega] at this
    exact ⟨u, this, fun h => absurd h (by omega)⟩, Chg.refl _ _⟩
  clear hxc hx
  go_enter Tryd.func10, Tryd.ntmps10
  go_wp2_with fail
  go_loopw [1, 5] (fun n i wr => ∃ k : Nat, k ≤ xs.length ∧ i = .int .i64 k ∧ n = .int .i64 ((m + 4 * k : Nat) : Int) ∧ Hid (MarkRelC b off m xs.length (k * 4) w wr)) (fun _ i _ => xs.length - (intOf i).toNat)
  case atStart => exact ⟨0, Nat.zero_le _, rfl, by simp, hst⟩
  case round =>
    obtain ⟨k, hk, rfl, rfl, HR⟩ := hrel
    clear hst
    by_cases hlt : k < xs.length
    · go_wp2_with fail
      refine (markText_any (m + 4 * k) _ (by omega) (by omega)).mono ?_
      rintro e w1 ⟨rfl, hb1⟩
      have R0 : MarkRelC b off m xs.length (k * 4) w w1 := ⟨fun q hq => by obtain ⟨u, hu, hv⟩ := HR.out.1 q hq; exact ⟨u, hu.keep (hb1.block b hu.lt), hv⟩, HR.out.2.then hb1⟩
      obtain ⟨u0, k0, f0⟩ := R0.cell (q := k * 4) (by omega)
      obtain ⟨u1, k1, f1⟩ := R0.cell (q := k * 4 + 1) (by omega)
      obtain ⟨u2, k2, f2⟩ := R0.cell (q := k * 4 + 2) (by omega)
      obtain ⟨u3, k3, f3⟩ := R0.cell (q := k * 4 + 3) (by omega)
      have R4 := Lib.hid (fun v0 v1 v2 v3 (e0 : v0 = markV m (k * 4)) (e1 : v1 = markV m (k * 4 + 1)) (e2 : v2 = markV m (k * 4 + 2)) (e3 : v3 = markV m (k * 4 + 3)) => (((R0.step (k := k * 4) (bb _) e0).step (k := k * 4 + 1) (bb _) e1).step (k := k * 4 + 2) (bb _) e2).step (k := k * 4 + 3) (bb _) e3)
      have E0 : Hid (Value.string (ms (markB (m + 4 * k))) = markV m (k * 4)) := by unfold Hid markV; rw [if_pos (by omega), show m + k * 4 = m + 4 * k by omega]
      have E1 : Hid (∀ z : Int, z = ((m + 4 * k : Nat) : Int) + 1 → Value.int .i64 z = markV m (k * 4 + 1)) := fun z h => by unfold markV; rw [if_neg (by omega), h]; congr 1; omega
      have E2 : Hid (∀ z : Int, z = ((m + 4 * k : Nat) : Int) + 2 → Value.int .i64 z = markV m (k * 4 + 2)) := fun z h => by unfold markV; rw [if_neg (by omega), h]; congr 1; omega
      have E3 : Hid (∀ z : Int, z = ((m + 4 * k : Nat) : Int) + 3 → Value.int .i64 z = markV m (k * 4 + 3)) := fun z h => by unfold markV; rw [if_neg (by omega), h]; congr 1; omega
      simp only [← Nat.add_assoc] at k1 f1 k2 f2 k3 f3 R4
      clear R0 HR hb1
      go_wp2_with fail
      go_roundw
      case rel => exact ⟨k + 1, by omega, by go_num, by go_num, by rw [show (k + 1) * 4 = k * 4 + 3 + 1 by omega]; exact R4.out _ _ _ _ E0.out (E1.out _ (by omega)) (E2.out _ (by omega)) (E3.out _ (by omega))⟩
      case measure => simp [intOf]; omega
    · obtain rfl : k = xs.length := by omega
      have R := Lib.hid (HR.out.done (List.length_pos_iff.2 hxn) hx1 hx2 (by omega))
      have hC := Lib.hid HR.out.2
      clear HR
      go_wp2_with fail
      go_ret
      exact ⟨rfl, R.out, hC.out⟩

set_option maxRecDepth 100000 in
set_option maxHeartbeats 2000000 in
theorem heldRecordS_same (v : Value) (m : Nat) (n : Nat) (F : List Nat) (w : World) (hx : rcTy.row false w v (markRc m n) F) (h0 : 0 < m) (h1 : m + 4 * n ≤ 1000000000) :
    Calls Tryd.prog 11 #[v, .int .i64 m] w fun e w' => e = .returned (.int .i64 ((m + 4 * n : Nat) : Int)) ∧ Below w.heap.size w w' := by
  obtain ⟨a, c, rfl, hx1, hx2, hg, hx3⟩ := row_flat hx
  rw [markRc_length] at hx1 ⊢
  go_enter Tryd.func11, Tryd.ntmps11
  go_wp2_with fail
  go_loopw [1, 5] (fun z i wr => ∃ k : Nat, k ≤ n ∧ i = .int .i64 k ∧ z = .int .i64 ((m + 4 * k : Nat) : Int) ∧ Below w.heap.size w wr) (fun _ i _ => n - (intOf i).toNat)
  case atStart => exact ⟨0, Nat.zero_le _, rfl, by simp, bb _⟩
  case round =>
    obtain ⟨k, hk, rfl, rfl, hB⟩ := hrel
    by_cases hlt : k < n
    · rcases hx3 with ⟨e, rfl⟩ | ⟨_, hxn, b, off, rfl, rfl, hxc⟩
      · have h := congrArg List.length e; rw [markRc_length] at h; have h' : n = 0 := h; omega
      have q0 := hxc k (by rw [markRc_length]; exact hlt) 0 (.string (ms (markB (m + 4 * k)))) (by rw [markRc_get]; rfl)
      have q1 := hxc k (by rw [markRc_length]; exact hlt) 1 (.int .i64 ((m + 4 * k + 1 : Nat) : Int)) (by rw [markRc_get]; rfl)
      have q2 := hxc k (by rw [markRc_length]; exact hlt) 2 (.int .i64 ((m + 4 * k + 2 : Nat) : Int)) (by rw [markRc_get]; rfl)
      have q3 := hxc k (by rw [markRc_length]; exact hlt) 3 (.int .i64 ((m + 4 * k + 3 : Nat) : Int)) (by rw [markRc_get]; rfl)
      have hbl := Nat.lt_of_lt_of_le q0.lt hB.size
      have k0 : wr.cell? ⟨b, off + k * 4, none⟩ = some (.string (ms (markB (m + 4 * k)))) := (q0.keep (hB.block b q0.lt)).1
      have k1 : wr.cell? ⟨b, off + k * 4 + 1, none⟩ = some (.int .i64 ((m + 4 * k + 1 : Nat) : Int)) := (q1.keep (hB.block b q0.lt)).1
      have k2 : wr.cell? ⟨b, off + k * 4 + 2, none⟩ = some (.int .i64 ((m + 4 * k + 2 : Nat) : Int)) := (q2.keep (hB.block b q0.lt)).1
      have k3 : wr.cell? ⟨b, off + k * 4 + 3, none⟩ = some (.int .i64 ((m + 4 * k + 3 : Nat) : Int)) := (q3.keep (hB.block b q0.lt)).1
      clear hxc q0 q1 q2 q3
      have hne1 : ((markB (m + 4 * k)) != (markB (m + 4 * k))) = false := by simp
      go_wp2_with fail
      refine wp_region_tail_lit (S := (fun w' => w'.cell? ⟨b, off + k * 4, none⟩ = some (.string (ms (markB (m + 4 * k)))))) 7 [false, false, false, false, false, false, false, false] (by kernel_rfl) (by kernel_rfl) (by kernel_rfl) ?_ ?_
      · exact k0
      intro hS
      (refine walkT_take (i := 0) (v := ?_) rfl (by kernel_rfl) (by decide) (by kernel_rfl) (by kernel_rfl) (fun _ _ _ h => h) (Or.inl ⟨by rfl, ?_⟩) (by assumption) ?_; rotate_left; (focus (intro w hSw; (try dsimp only at hSw); go_simp; (try with_reducible rfl); done)); (try simp only [put_rules]))
      (refine walkT_take (i := 1) (v := ?_) rfl (by kernel_rfl) (by decide) (by kernel_rfl) (by kernel_rfl) (fun _ _ _ h => h) (Or.inl ⟨by rfl, ?_⟩) (by assumption) ?_; rotate_left; (focus (intro w hSw; (try dsimp only at hSw); go_simp; (try with_reducible rfl); done)); (try simp only [put_rules]))
      (refine walkT_take (i := 2) (v := ?_) rfl (by kernel_rfl) (by decide) (by kernel_rfl) (by kernel_rfl) (fun _ _ _ h => h) (Or.inl ⟨by rfl, ?_⟩) (by assumption) ?_; rotate_left; (focus (intro w hSw; (try dsimp only at hSw); go_simp; (try with_reducible rfl); done)); (try simp only [put_rules]))
      (refine walkT_take (i := 3) (v := ?_) rfl (by kernel_rfl) (by decide) (by kernel_rfl) (by kernel_rfl) (fun _ _ _ h => h) (Or.inl ⟨by rfl, ?_⟩) (by assumption) ?_; rotate_left; (focus (intro w hSw; (try dsimp only at hSw); go_simp; (try with_reducible rfl); done)); (try simp only [put_rules]))
      (refine walkT_take (i := 4) (v := ?_) rfl (by kernel_rfl) (by decide) (by kernel_rfl) (by kernel_rfl) (fun _ _ _ h => h) (Or.inl ⟨by rfl, ?_⟩) (by assumption) ?_; rotate_left; (focus (intro w hSw; (try dsimp only at hSw); go_simp; (try with_reducible rfl); done)); (try simp only [put_rules]))
      (refine walkT_take (i := 5) (v := ?_) rfl (by kernel_rfl) (by decide) (by kernel_rfl) (by kernel_rfl) (fun _ _ _ h => h) (Or.inl ⟨by rfl, ?_⟩) (by assumption) ?_; rotate_left; (focus (intro w hSw; (try dsimp only at hSw); go_simp; (try with_reducible rfl); done)); (try simp only [put_rules]))
      (refine walkT_ready (rs := [6]) (by kernel_rfl) (by simp) (by decide) ?_; refine AllT.cons rfl (fun K hK => ?_) AllT.nil)
      go_simp
      go_at_call 22
      refine (markText_at (m + 4 * k) (by omega) (by omega) (by omega)).mono ?_
      rintro e w1 ⟨rfl, hb1⟩
      have j0 := ((bcell hb1).1 b (off + k * 4) hbl).trans k0
      have j1 := ((bcell hb1).1 b (off + k * 4 + 1) hbl).trans k1
      have j2 := ((bcell hb1).1 b (off + k * 4 + 2) hbl).trans k2
      have j3 := ((bcell hb1).1 b (off + k * 4 + 3) hbl).trans k3
      have hB1 : Below w.heap.size w w1 := (by repeat (first | exact bb _ | assumption | refine bal ?_ _ | refine bdr ?_ | refine bdn ?_ _ | refine bst ?_ (by simp <;> omega) _ | refine btr ?_ (by assumption)))
      go_wp2_with fail
      refine hK.out _ _ j0 (fun hS2 => ?_)
      clear hK hS hS2 hb1 k0 k1 k2 k3 hB hbl
      (try simp only [put_rules])
      (refine walkT_done (by kernel_rfl) ?_)
      simp only [List.drop_succ_cons, List.drop_zero]
      go_wp2_with fail
      go_roundw
      case rel => exact ⟨k + 1, by omega, by go_num, by go_num, hB1⟩
      case measure => simp [intOf]; omega
    · obtain rfl : k = n := by omega
      go_wp2_with fail
      go_ret
      exact ⟨rfl, hB⟩
end Go.Proofs.YtahbepajeplcmaaDoor
