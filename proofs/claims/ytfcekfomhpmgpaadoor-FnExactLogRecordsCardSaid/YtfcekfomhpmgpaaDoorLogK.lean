/- Contracts: rows of records marked and held. -/
import Derived.Test.YtfcekfomhpmgpaaDoorMarkT
import Derived.Test.YtfcekfomhpmgpaaDoorLogA
import Derived.Test.YtfcekfomhpmgpaaDoorSepA
import Derived.Test.YtfcekfomhpmgpaaDoorHTail
import Derived.Test.YtfcekfomhpmgpaaDoorQTail
namespace Go.Proofs.YtfcekfomhpmgpaaDoor
open Go.RowKit

/-- Records with marks. -/
def markR (m n : Nat) : List (List UInt8 × List UInt8) := (List.range n).map fun j => (markB (m + 2 * j), markB (m + 2 * j + 1))
theorem markR_length (m n : Nat) : (markR m n).length = n := by simp [markR]
theorem markR_get (m n j : Nat) (h : j < (markR m n).length) : (markR m n)[j] = (markB (m + 2 * j), markB (m + 2 * j + 1)) := by simp [markR]
theorem markB_len (n : Nat) (h : n ≤ 1000000000000000000) : (markB n).length ≤ 21 := by have := digs_len n h; simp [markB]; omega
theorem markR_ok {m n : Nat} (h : m + 2 * n ≤ 1000000000000000000) : ∀ x ∈ markR m n, recOk x := by
  intro x hx
  simp only [markR, List.mem_map, List.mem_range] at hx
  obtain ⟨j, hj, rfl⟩ := hx
  have h1 := markB_len (m + 2 * j) (by omega)
  have h2 := markB_len (m + 2 * j + 1) (by omega)
  unfold recOk
  simp only
  omega

/-- What has been marked so far: the cells of the row, told by their number. -/
def markC (m : Nat) (xs : List (List UInt8 × List UInt8)) (k q : Nat) : List UInt8 := if q < k then markB (m + q) else if q % 2 = 0 then (xs[q / 2]?.getD ([], [])).1 else (xs[q / 2]?.getD ([], [])).2
def MarkRelR (b off m : Nat) (xs : List (List UInt8 × List UInt8)) (k : Nat) (w wr : World) : Prop :=
  (∀ q, q < xs.length * 2 → cellIs true wr b (off + q) (.string (ms (markC m xs k q)))) ∧ Chg [b] w wr
theorem MarkRelR.step {b off m : Nat} {xs : List (List UInt8 × List UInt8)} {k : Nat} {w wr w1 : World} (h : MarkRelR b off m xs k w wr) (hb : Below wr.heap.size wr w1) (hk : k < xs.length * 2) :
    MarkRelR b off m xs (k + 1) w (w1.setCell ⟨b, off + k, none⟩ (.string (ms (markB (m + k))))) := by
  refine ⟨fun q hq => ?_, (h.2.then hb).set (by simp) _⟩
  have hc0 := h.1 q hq
  have hc := hc0.keep (hb.block b hc0.lt)
  by_cases e : q = k
  · subst e
    refine ⟨?_, fun _ => ?_⟩
    · rw [World.cell?_setCell_same' _ _ _ (by rw [hc.1]; rfl)]
      simp [markC]
    · rw [World.frozen?_setCell]; exact hc.2 rfl
  · refine ⟨?_, fun _ => ?_⟩
    · rw [World.cell?_setCell_other w1 _ _ _ (by simp only [ne_eq, Addr.mk.injEq]; omega), hc.1]
      unfold markC
      by_cases h1 : q < k
      · rw [if_pos h1, if_pos (show q < k + 1 by omega)]
      · rw [if_neg h1, if_neg (show ¬ q < k + 1 by omega)]
    · rw [World.frozen?_setCell]; exact hc.2 rfl
theorem MarkRelR.start {b off m : Nat} {xs : List (List UInt8 × List UInt8)} {w : World} (hc : ∀ j (hj : j < xs.length) i (u : Value), (recEnc xs[j])[i]? = some u → cellIs true w b (off + (j * 2 + i)) u) : MarkRelR b off m xs 0 w w := by
  refine ⟨fun q hq => ?_, Chg.refl _ _⟩
  have hj : q / 2 < xs.length := by omega
  unfold markC
  rw [if_neg (show ¬ q < 0 by omega), List.getElem?_eq_getElem hj, Option.getD_some]
  by_cases h : q % 2 = 0
  · rw [if_pos h]
    have := hc (q / 2) hj 0 _ rfl
    rwa [show q / 2 * 2 + 0 = q by omega] at this
  · rw [if_neg h]
    have := hc (q / 2) hj 1 _ rfl
    rwa [show q / 2 * 2 + 1 = q by omega] at this
theorem MarkRelR.done {b off m cap : Nat} {xs : List (List UInt8 × List UInt8)} {w wr : World} (h : MarkRelR b off m xs (xs.length * 2) w wr) (hne : xs ≠ []) (h1 : xs.length ≤ cap) (h2 : cap ≤ 9223372036854775807) (hm : m + 2 * xs.length ≤ 1000000000000000000) :
    recTy.row true wr (.slice (some ⟨b, off, none⟩) xs.length cap) (markR m xs.length) [b] := by
  have hl := markR_length m xs.length
  have hne' : markR m xs.length ≠ [] := by intro e; rw [e] at hl; simp at hl; exact hne (List.length_eq_zero_iff.1 hl.symm)
  have := row_flat_mk (wr := true) (w := wr) (b := b) (off := off) (cap := cap) (n := 2) (enc := recEnc) (good := recOk) (hn := fun _ => rfl) (markR_ok hm) (by rw [hl]; exact h1) h2 hne' (by decide) (fun j hj i u hu => by
    rw [hl] at hj
    rw [markR_get] at hu
    match i, hu with
    | 0, hu =>
      have hq := h.1 (j * 2 + 0) (by omega)
      unfold markC at hq
      rw [if_pos (by omega), show m + (j * 2 + 0) = m + 2 * j by omega] at hq
      have e : u = .string (ms (markB (m + 2 * j))) := by simpa [recEnc] using hu.symm
      rw [e]; exact hq
    | 1, hu =>
      have hq := h.1 (j * 2 + 1) (by omega)
      unfold markC at hq
      rw [if_pos (by omega), show m + (j * 2 + 1) = m + 2 * j + 1 by omega] at hq
      have e : u = .string (ms (markB (m + 2 * j + 1))) := by simpa [recEnc] using hu.symm
      rw [e]; exact hq
    | i + 2, hu => simp [recEnc] at hu)
  rw [hl] at this
  exact this

def MarkPostR (w : World) (v : Value) (k : Int) (ys : List (List UInt8 × List UInt8)) (F : List Nat) (e : Ending) (w' : World) : Prop :=
  e = .returned (.int .i64 k) ∧ recTy.row true w' v ys F ∧ Chg F w w'

set_option maxRecDepth 100000 in
set_option maxHeartbeats 2000000 in
theorem markLogRecordS_any (v : Value) (m : Nat) (xs : List (List UInt8 × List UInt8)) (F : List Nat) (w : World) (hx : recTy.row true w v xs F) (h0 : 0 < m) (h1 : m + 2 * xs.length ≤ 1000000000) :
    Calls Tryd.prog 35 #[v, .int .i64 m] w (MarkPostR w v ((m + 2 * xs.length : Nat) : Int) (markR m xs.length) F) := by
  obtain ⟨a, c, rfl, hx1, hx2, hg, hx3⟩ := row_flat hx
  rcases hx3 with ⟨rfl, rfl⟩ | ⟨_, hxn, b, off, rfl, rfl, hxc⟩
  · go_enter Tryd.func35, Tryd.ntmps35
    go_wp2_with fail
    refine wp_loop_rounds 1 ?_
    rw [rounds_succ]
    go_wp2_with fail
    go_ret
    exact ⟨ret_int (by simp), Ty.row_nil _ _ _ _ _ hx2, Chg.refl _ _⟩
  have hst : Hid (MarkRelR b off m xs 0 w w) := MarkRelR.start hxc
  clear hxc
  go_enter Tryd.func35, Tryd.ntmps35
  go_wp2_with fail
  go_loopw [1, 5] (fun n i wr => ∃ k : Nat, k ≤ xs.length ∧ i = .int .i64 k ∧ n = .int .i64 ((m + 2 * k : Nat) : Int) ∧ MarkRelR b off m xs (k * 2) w wr) (fun _ i _ => xs.length - (intOf i).toNat)
  case atStart => exact ⟨0, Nat.zero_le _, rfl, by simp, by simpa using hst.out⟩
  case round =>
    obtain ⟨k, hk, rfl, rfl, HR⟩ := hrel
    replace HR := Lib.hid HR
    by_cases hlt : k < xs.length
    · have q0 := HR.out.1 (k * 2) (by omega)
      have hbl := q0.lt
      go_wp2_with fail
      refine (markText_any (m + 2 * k) _ (by omega) (by omega)).mono ?_
      rintro e w1 ⟨rfl, hb1⟩
      have q1 := q0.keep (hb1.block b hbl)
      have k0 := q1.1
      have k1 := q1.2 rfl
      have R1 := HR.out.step hb1 (by omega : k * 2 < xs.length * 2)
      rw [show m + k * 2 = m + 2 * k by omega] at R1
      have q2 := R1.1 (k * 2 + 1) (by omega)
      replace R1 := Lib.hid R1
      have hbl2 := q2.lt
      have hbl1 := q1.lt
      clear q0 q1 HR hb1 hbl hst
      go_wp2_with fail
      refine (markText_at (m + 2 * k + 1) (by omega) (by omega) (by omega)).mono ?_
      rintro e w2 ⟨rfl, hb2⟩
      have q3 := q2.keep (hb2.block b hbl2)
      have k2 : w2.cell? ⟨b, off + k * 2 + 1, none⟩ = _ := q3.1
      have k3 : w2.frozen? ⟨b, off + k * 2 + 1, none⟩ = false := q3.2 rfl
      have R2 := R1.out.step hb2 (by omega : k * 2 + 1 < xs.length * 2)
      rw [show m + (k * 2 + 1) = m + 2 * k + 1 by omega, show k * 2 + 1 + 1 = (k + 1) * 2 by omega, ← Nat.add_assoc] at R2
      replace R2 := Lib.hid R2
      clear q2 q3 R1 hb2 hbl2 hbl1 k0 k1
      go_wp2_with fail
      go_roundw
      case rel => exact ⟨k + 1, by omega, by go_num, by go_num, R2.out⟩
      case measure => simp [intOf]; omega
    · obtain rfl : k = xs.length := by omega
      have R := HR.out.done hxn hx1 hx2 (by omega)
      have hC := HR.out.2
      replace R := Lib.hid R
      replace hC := Lib.hid hC
      clear HR
      go_wp2_with fail
      go_ret
      exact ⟨rfl, R.out, hC.out⟩

set_option maxRecDepth 100000 in
set_option maxHeartbeats 2000000 in
theorem heldLogRecordS_same (v : Value) (m : Nat) (n : Nat) (F : List Nat) (w : World) (hx : recTy.row false w v (markR m n) F) (h0 : 0 < m) (h1 : m + 2 * n ≤ 1000000000) :
    Calls Tryd.prog 36 #[v, .int .i64 m] w fun e w' => e = .returned (.int .i64 ((m + 2 * n : Nat) : Int)) ∧ Below w.heap.size w w' := by
  obtain ⟨a, c, rfl, hx1, hx2, hg, hx3⟩ := row_flat hx
  rw [markR_length] at hx1 ⊢
  go_enter Tryd.func36, Tryd.ntmps36
  go_wp2_with fail
  go_loopw [1, 5] (fun z i wr => ∃ k : Nat, k ≤ n ∧ i = .int .i64 k ∧ z = .int .i64 ((m + 2 * k : Nat) : Int) ∧ Below w.heap.size w wr) (fun _ i _ => n - (intOf i).toNat)
  case atStart => exact ⟨0, Nat.zero_le _, rfl, by simp, bb _⟩
  case round =>
    obtain ⟨k, hk, rfl, rfl, hB⟩ := hrel
    by_cases hlt : k < n
    · rcases hx3 with ⟨e, rfl⟩ | ⟨_, hxn, b, off, rfl, rfl, hxc⟩
      · have h := congrArg List.length e; rw [markR_length] at h; have h' : n = 0 := h; omega
      have q0 := hxc k (by rw [markR_length]; exact hlt) 0 (.string (ms (markB (m + 2 * k)))) (by rw [markR_get]; rfl)
      have q1 := hxc k (by rw [markR_length]; exact hlt) 1 (.string (ms (markB (m + 2 * k + 1)))) (by rw [markR_get]; rfl)
      have hbl := Nat.lt_of_lt_of_le q0.lt hB.size
      have k0 : wr.cell? ⟨b, off + k * 2, none⟩ = some (.string (ms (markB (m + 2 * k)))) := (q0.keep (hB.block b q0.lt)).1
      have k1 : wr.cell? ⟨b, off + k * 2 + 1, none⟩ = some (.string (ms (markB (m + 2 * k + 1)))) := (q1.keep (hB.block b q0.lt)).1
      clear hxc q0 q1
      have hne1 : ((markB (m + 2 * k)) != (markB (m + 2 * k))) = false := by simp
      have hne2 : ((markB (m + 2 * k + 1)) != (markB (m + 2 * k + 1))) = false := by simp
      go_wp2_with fail
      refine wp_region_tail (S := (fun w' => w'.cell? ⟨b, off + k * 2, none⟩ = some (.string (ms (markB (m + 2 * k)))))) 7 (by kernel_rfl) (by kernel_rfl) ?_ ?_
      · exact k0
      intro hS
      (refine walkT_take (i := 0) (v := ?_) rfl (by kernel_rfl) (by decide) (by kernel_rfl) (by kernel_rfl) (fun _ _ _ h => h) (Or.inl ⟨by rfl, ?_⟩) (by assumption) ?_; rotate_left; focus (intro w hSw; (try dsimp only at hSw); go_simp; (try with_reducible rfl); done); (try simp only [Act.put, List.setIfInBounds_toArray, List.set_cons_zero, List.set_cons_succ]))
      (refine walkT_take (i := 1) (v := ?_) rfl (by kernel_rfl) (by decide) (by kernel_rfl) (by kernel_rfl) (fun _ _ _ h => h) (Or.inl ⟨by rfl, ?_⟩) (by assumption) ?_; rotate_left; focus (intro w hSw; (try dsimp only at hSw); go_simp; (try with_reducible rfl); done); (try simp only [Act.put, List.setIfInBounds_toArray, List.set_cons_zero, List.set_cons_succ]))
      (refine walkT_take (i := 2) (v := ?_) rfl (by kernel_rfl) (by decide) (by kernel_rfl) (by kernel_rfl) (fun _ _ _ h => h) (Or.inl ⟨by rfl, ?_⟩) (by assumption) ?_; rotate_left; focus (intro w hSw; (try dsimp only at hSw); go_simp; (try with_reducible rfl); done); (try simp only [Act.put, List.setIfInBounds_toArray, List.set_cons_zero, List.set_cons_succ]))
      (refine walkT_take (i := 3) (v := ?_) rfl (by kernel_rfl) (by decide) (by kernel_rfl) (by kernel_rfl) (fun _ _ _ h => h) (Or.inl ⟨by rfl, ?_⟩) (by assumption) ?_; rotate_left; focus (intro w hSw; (try dsimp only at hSw); go_simp; (try with_reducible rfl); done); (try simp only [Act.put, List.setIfInBounds_toArray, List.set_cons_zero, List.set_cons_succ]))
      (refine walkT_take (i := 4) (v := ?_) rfl (by kernel_rfl) (by decide) (by kernel_rfl) (by kernel_rfl) (fun _ _ _ h => h) (Or.inl ⟨by rfl, ?_⟩) (by assumption) ?_; rotate_left; focus (intro w hSw; (try dsimp only at hSw); go_simp; (try with_reducible rfl); done); (try simp only [Act.put, List.setIfInBounds_toArray, List.set_cons_zero, List.set_cons_succ]))
      (refine walkT_take (i := 5) (v := ?_) rfl (by kernel_rfl) (by decide) (by kernel_rfl) (by kernel_rfl) (fun _ _ _ h => h) (Or.inl ⟨by rfl, ?_⟩) (by assumption) ?_; rotate_left; focus (intro w hSw; (try dsimp only at hSw); go_simp; (try with_reducible rfl); done); (try simp only [Act.put, List.setIfInBounds_toArray, List.set_cons_zero, List.set_cons_succ]))
      (refine walkT_ready (rs := [6]) (by kernel_rfl) (by simp) (by decide) ?_; refine AllT.cons rfl (fun K hK => ?_) AllT.nil)
      go_simp
      go_at_call 72
      refine (markText_at (m + 2 * k) rfl (by omega) (by omega)).mono ?_
      rintro e w1 ⟨rfl, hb1⟩
      have j0 := ((bcell hb1).1 b (off + k * 2) hbl).trans k0
      have j1 := ((bcell hb1).1 b (off + k * 2 + 1) hbl).trans k1
      have hB1 : Below w.heap.size w w1 := (by repeat (first | exact bb _ | assumption | refine bal ?_ _ | refine bdr ?_ | refine bdn ?_ _ | refine bst ?_ (by simp <;> omega) _ | refine btr ?_ (by assumption)))
      have hbl1 : b < w1.heap.size := Nat.lt_of_lt_of_le hbl hb1.size
      go_wp2_with fail
      refine hK.out _ _ j0 (fun hS2 => ?_)
      clear hK hS hS2 hb1 k0 k1 hB hbl
      (try simp only [Act.put, List.setIfInBounds_toArray, List.set_cons_zero, List.set_cons_succ])
      (refine walkT_done (by kernel_rfl) ?_)
      simp only [List.drop_succ_cons, List.drop_zero]
      go_wp2_with fail
      refine wp_region_tail (S := (fun w' => w'.cell? ⟨b, off + k * 2 + 1, none⟩ = some (.string (ms (markB (m + 2 * k + 1)))))) 7 (by kernel_rfl) (by kernel_rfl) ?_ ?_
      · exact j1
      intro hS
      (refine walkT_take (i := 0) (v := ?_) rfl (by kernel_rfl) (by decide) (by kernel_rfl) (by kernel_rfl) (fun _ _ _ h => h) (Or.inl ⟨by rfl, ?_⟩) (by assumption) ?_; rotate_left; focus (intro w hSw; (try dsimp only at hSw); go_simp; (try with_reducible rfl); done); (try simp only [Act.put, List.setIfInBounds_toArray, List.set_cons_zero, List.set_cons_succ]))
      (refine walkT_take (i := 1) (v := ?_) rfl (by kernel_rfl) (by decide) (by kernel_rfl) (by kernel_rfl) (fun _ _ _ h => h) (Or.inl ⟨by rfl, ?_⟩) (by assumption) ?_; rotate_left; focus (intro w hSw; (try dsimp only at hSw); go_simp; (try with_reducible rfl); done); (try simp only [Act.put, List.setIfInBounds_toArray, List.set_cons_zero, List.set_cons_succ]))
      (refine walkT_take (i := 2) (v := ?_) rfl (by kernel_rfl) (by decide) (by kernel_rfl) (by kernel_rfl) (fun _ _ _ h => h) (Or.inl ⟨by rfl, ?_⟩) (by assumption) ?_; rotate_left; focus (intro w hSw; (try dsimp only at hSw); go_simp; (try with_reducible rfl); done); (try simp only [Act.put, List.setIfInBounds_toArray, List.set_cons_zero, List.set_cons_succ]))
      (refine walkT_take (i := 3) (v := ?_) rfl (by kernel_rfl) (by decide) (by kernel_rfl) (by kernel_rfl) (fun _ _ _ h => h) (Or.inl ⟨by rfl, ?_⟩) (by assumption) ?_; rotate_left; focus (intro w hSw; (try dsimp only at hSw); go_simp; (try with_reducible rfl); done); (try simp only [Act.put, List.setIfInBounds_toArray, List.set_cons_zero, List.set_cons_succ]))
      (refine walkT_take (i := 4) (v := ?_) rfl (by kernel_rfl) (by decide) (by kernel_rfl) (by kernel_rfl) (fun _ _ _ h => h) (Or.inl ⟨by rfl, ?_⟩) (by assumption) ?_; rotate_left; focus (intro w hSw; (try dsimp only at hSw); go_simp; (try with_reducible rfl); done); (try simp only [Act.put, List.setIfInBounds_toArray, List.set_cons_zero, List.set_cons_succ]))
      (refine walkT_take (i := 5) (v := ?_) rfl (by kernel_rfl) (by decide) (by kernel_rfl) (by kernel_rfl) (fun _ _ _ h => h) (Or.inl ⟨by rfl, ?_⟩) (by assumption) ?_; rotate_left; focus (intro w hSw; (try dsimp only at hSw); go_simp; (try with_reducible rfl); done); (try simp only [Act.put, List.setIfInBounds_toArray, List.set_cons_zero, List.set_cons_succ]))
      (refine walkT_ready (rs := [6]) (by kernel_rfl) (by simp) (by decide) ?_; refine AllT.cons rfl (fun K hK => ?_) AllT.nil)
      go_simp
      go_at_call 72
      refine (markText_at (m + 2 * k + 1) (by omega) (by omega) (by omega)).mono ?_
      rintro e w2 ⟨rfl, hb2⟩
      have i1 := ((bcell hb2).1 b (off + k * 2 + 1) hbl1).trans j1
      have hB2 : Below w.heap.size w w2 := (by repeat (first | exact bb _ | assumption | refine bal ?_ _ | refine bdr ?_ | refine bdn ?_ _ | refine bst ?_ (by simp <;> omega) _ | refine btr ?_ (by assumption)))
      go_wp2_with fail
      refine hK.out _ _ i1 (fun hS2 => ?_)
      clear hK hS hS2 hb2 j0 j1 hB1 hbl1
      (try simp only [Act.put, List.setIfInBounds_toArray, List.set_cons_zero, List.set_cons_succ])
      (refine walkT_done (by kernel_rfl) ?_)
      simp only [List.drop_succ_cons, List.drop_zero]
      go_wp2_with fail
      go_roundw
      case rel => exact ⟨k + 1, by omega, by go_num, by go_num, hB2⟩
      case measure => simp [intOf]; omega
    · obtain rfl : k = n := by omega
      go_wp2_with fail
      go_ret
      exact ⟨rfl, hB⟩
theorem heldLogRecordS_at {v : Value} {n : Nat} {F : List Nat} {w : World} (hx : recTy.row false w v (markR 1 n) F) (h1 : 1 + 2 * n ≤ 1000000000) :
    Calls Tryd.prog 36 #[v, .int .i64 1] w fun e w' => e = .returned (.int .i64 ((1 + 2 * n : Nat) : Int)) ∧ Below w.heap.size w w' := heldLogRecordS_same v 1 n F w hx (by decide) h1
end Go.Proofs.YtfcekfomhpmgpaaDoor
