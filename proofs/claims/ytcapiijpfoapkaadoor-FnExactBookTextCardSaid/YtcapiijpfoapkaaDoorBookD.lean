/- Contracts: marks in rows of records and of strings. -/
import Derived.Test.YtcapiijpfoapkaaDoorBookC
namespace Go.Proofs.YtcapiijpfoapkaaDoor
open Go.RowKit

/-- A part that is let go. -/
def Nix : Asn where
  p _ F := F = []
  lt := by rintro w F rfl x hx; simp at hx
  keep := by rintro w w' F rfl _; rfl
theorem Sp.spoil {α : Type} {T : Ty α} {w0 w : World} {ps : List Asn} {i : Nat} {v : Value} {xs : List α} (h : Sp w0 w ps) (hi : ps[i]? = some (Row T v xs)) :
    ∃ F, T.row true w v xs F ∧ F.Nodup ∧ ∀ w', Chg F w w' → Sp w0 w' (ps.set i Nix) := by
  obtain ⟨F, ⟨hr, hn⟩, hF, hall⟩ := h.upd hi
  exact ⟨F, hr, hn, fun w' hc => hall w' Nix [] hc rfl (fun b hb => by simp at hb)⟩

/-- The cells of a row may be written. -/
def FreeRel (b off n : Nat) (w wr : World) : Prop := (∀ q, q < n → ∃ u, cellIs true wr b (off + q) u) ∧ Chg [b] w wr
theorem FreeRel.step {b off n k : Nat} {w wr w1 : World} (h : FreeRel b off n w wr) (hb : Below wr.heap.size wr w1) (u : Value) : FreeRel b off n w (w1.setCell ⟨b, off + k, none⟩ u) := by
  refine ⟨fun q hq => ?_, (h.2.then hb).set (by simp) _⟩
  obtain ⟨v, hc0⟩ := h.1 q hq
  have hc := hc0.keep (hb.block b hc0.lt)
  by_cases e : q = k
  · subst e
    exact ⟨u, by rw [World.cell?_setCell_same' _ _ _ (by rw [hc.1]; rfl)], fun _ => by rw [World.frozen?_setCell]; exact hc.2 rfl⟩
  · exact ⟨v, by rw [World.cell?_setCell_other w1 _ _ _ (by simp only [ne_eq, Addr.mk.injEq]; omega)]; exact hc.1, fun _ => by rw [World.frozen?_setCell]; exact hc.2 rfl⟩
theorem FreeRel.cell {b off n : Nat} {w wr : World} (h : FreeRel b off n w wr) {q : Nat} (hq : q < n) : ∃ u, wr.cell? ⟨b, off + q, none⟩ = some u ∧ wr.frozen? ⟨b, off + q, none⟩ = false := by
  obtain ⟨u, hu⟩ := h.1 q hq
  exact ⟨u, hu.1, hu.2 rfl⟩

set_option maxRecDepth 100000 in
set_option maxHeartbeats 2000000 in
theorem markRecordS_any (v : Value) (m : Nat) (xs : List Rec) (F : List Nat) (w : World) (hx : rcTy.row true w v xs F) (h0 : 0 < m) (h1 : m + 4 * xs.length ≤ 1000000000) :
    Calls Tryd.prog 10 #[v, .int .i64 m] w fun e w' => e = .returned (.int .i64 ((m + 4 * xs.length : Nat) : Int)) ∧ Chg F w w' := by
  obtain ⟨a, c, rfl, hx1, hx2, hg, hx3⟩ := row_flat hx
  rcases hx3 with ⟨rfl, rfl⟩ | ⟨_, hxn, b, off, rfl, rfl, hxc⟩
  · go_enter Tryd.func10, Tryd.ntmps10
    go_wp2_with fail
    refine wp_loop_rounds 1 ?_
    rw [rounds_succ]
    go_wp2_with fail
    go_ret
    exact ⟨ret_int (by simp), Chg.refl _ _⟩
  have hst : Hid (FreeRel b off (xs.length * 4) w w) := ⟨fun q hq => by
    have hj : q / 4 < xs.length := by omega
    have hi : q % 4 < 4 := Nat.mod_lt _ (by decide)
    obtain ⟨u, hu⟩ : ∃ u, (rcEnc xs[q / 4])[q % 4]? = some u := ⟨_, List.getElem?_eq_getElem (show q % 4 < (rcEnc xs[q / 4]).length from hi)⟩
    have := hxc (q / 4) hj (q % 4) u hu
    rw [show q / 4 * 4 + q % 4 = q by omega] at this
    exact ⟨u, this⟩, Chg.refl _ _⟩
  clear hxc hx
  go_enter Tryd.func10, Tryd.ntmps10
  go_wp2_with fail
  go_loopw [1, 5] (fun n i wr => ∃ k : Nat, k ≤ xs.length ∧ i = .int .i64 k ∧ n = .int .i64 ((m + 4 * k : Nat) : Int) ∧ Hid (FreeRel b off (xs.length * 4) w wr)) (fun _ i _ => xs.length - (intOf i).toNat)
  case atStart => exact ⟨0, Nat.zero_le _, rfl, by simp, hst⟩
  case round =>
    obtain ⟨k, hk, rfl, rfl, HR⟩ := hrel
    clear hst
    by_cases hlt : k < xs.length
    · go_wp2_with fail
      refine (markText_any (m + 4 * k) _ (by omega) (by omega)).mono ?_
      rintro e w1 ⟨rfl, hb1⟩
      have R0 : FreeRel b off (xs.length * 4) w w1 := ⟨fun q hq => by obtain ⟨u, hu⟩ := HR.out.1 q hq; exact ⟨u, hu.keep (hb1.block b hu.lt)⟩, HR.out.2.then hb1⟩
      obtain ⟨u0, k0, f0⟩ := R0.cell (q := k * 4) (by omega)
      obtain ⟨u1, k1, f1⟩ := R0.cell (q := k * 4 + 1) (by omega)
      obtain ⟨u2, k2, f2⟩ := R0.cell (q := k * 4 + 2) (by omega)
      obtain ⟨u3, k3, f3⟩ := R0.cell (q := k * 4 + 3) (by omega)
      have R4 := Lib.hid (fun v0 v1 v2 v3 => (((R0.step (k := k * 4) (bb _) v0).step (k := k * 4 + 1) (bb _) v1).step (k := k * 4 + 2) (bb _) v2).step (k := k * 4 + 3) (bb _) v3)
      simp only [← Nat.add_assoc] at k1 f1 k2 f2 k3 f3 R4
      clear R0 HR hb1
      go_wp2_with fail
      go_roundw
      case rel => exact ⟨k + 1, by omega, by go_num, by go_num, R4.out _ _ _ _⟩
      case measure => simp [intOf]; omega
    · obtain rfl : k = xs.length := by omega
      go_wp2_with fail
      go_ret
      exact ⟨rfl, HR.out.2⟩
end Go.Proofs.YtcapiijpfoapkaaDoor
