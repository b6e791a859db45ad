/- Contracts: logs in the law: sized, copied, compared; rows of records. -/
import Derived.Test.YtfcekfomhpmgpaaDoorStrG
import Derived.Test.YtfcekfomhpmgpaaDoorMemF
import Derived.Test.YtfcekfomhpmgpaaDoorPlL
import Derived.Deep.RegionHeld3
import Derived.Deep.DeepCutAuto
namespace Go.Proofs.YtfcekfomhpmgpaaDoor
open Go.RowKit

set_option maxHeartbeats 400000 in
theorem szLog_any (c r : ByteArray) (k : Int) (n : Int) (w : World) (h0 : 0 ≤ n) (h1 : n ≤ 1048576) (hc : c.size ≤ 9223372036854775807) (hr : r.size ≤ 9223372036854775807) :
    Calls Tryd.prog 22 #[.agg #[.string c, .string r, .int .i64 k], .int .i64 n] w fun e w' => e = .returned (.int .i64 (if n < c.size + r.size then -1 else n - (c.size + r.size))) ∧ Below w.heap.size w w' := by
  go_enter Tryd.func22, Tryd.ntmps22
  go_wp2
  all_goals go_ret
  · exact ⟨rfl, bal (bb _) _⟩
  · exact ⟨rfl, bal (bb _) _⟩
  · exact ⟨ret_int (by omega), bal (bb _) _⟩

set_option maxHeartbeats 400000 in
theorem toLog_any (c r : ByteArray) (k : Int) (w : World) :
    Calls Tryd.prog 24 #[.agg #[.string c, .string r, .int .i64 k]] w fun e w' => e = .returned (.agg #[.string c, .string r, .int .i64 k]) ∧ Below w.heap.size w w' := by
  go_enter Tryd.func24, Tryd.ntmps24
  go_wp2
  exact bodyPost_ret (v := .agg #[.string c, .string r, .int .i64 k]) (by simp [results, Tryd.results24, go_sem]) rfl ⟨rfl, bal (bal (bal (bb _) _) _) _⟩

set_option maxHeartbeats 400000 in
theorem eqLog_same (c r : ByteArray) (k : Int) (w : World) :
    Calls Tryd.prog 21 #[.agg #[.string c, .string r, .int .i64 k], .agg #[.string c, .string r, .int .i64 k]] w fun e w' => e = .returned (.bool true) ∧ Below w.heap.size w w' := by
  go_enter Tryd.func21, Tryd.ntmps21
  go_wp2
  go_ret
  exact ⟨rfl, (by repeat (first | exact bb _ | assumption | refine bal ?_ _ | refine bdr ?_ | refine bdn ?_ _ | refine bst ?_ (by simp <;> omega) _ | refine btr ?_ (by assumption)))⟩

set_option maxHeartbeats 400000 in
theorem eqLogRecord_same (c r : ByteArray) (w : World) :
    Calls Tryd.prog 71 #[.agg #[.string c, .string r], .agg #[.string c, .string r]] w fun e w' => e = .returned (.bool true) ∧ Below w.heap.size w w' := by
  go_enter Tryd.func71, Tryd.ntmps71
  go_wp2
  go_ret
  exact ⟨rfl, (by repeat (first | exact bb _ | assumption | refine bal ?_ _ | refine bdr ?_ | refine bdn ?_ _ | refine bst ?_ (by simp <;> omega) _ | refine btr ?_ (by assumption)))⟩

/-- Records in memory: two strings each. -/
def recEnc (e : List UInt8 × List UInt8) : List Value := [.string (ms e.1), .string (ms e.2)]
def recOk (e : List UInt8 × List UInt8) : Prop := e.1.length ≤ 9223372036854775807 ∧ e.2.length ≤ 9223372036854775807
abbrev recTy : Ty (List UInt8 × List UInt8) := Ty.flat 2 recEnc recOk (fun _ => rfl)

/-- The two cells of each record. -/
theorem row_rec {wr : Bool} {w : World} {v : Value} {xs : List (List UInt8 × List UInt8)} {F : List Nat} (h : recTy.row wr w v xs F) :
    ∃ a cap, v = .slice a xs.length cap ∧ xs.length ≤ cap ∧ cap ≤ 9223372036854775807 ∧ (∀ x ∈ xs, recOk x) ∧
      ((xs = [] ∧ F = []) ∨ (xs ≠ [] ∧ ∃ b off, a = some ⟨b, off, none⟩ ∧ F = [b] ∧ ∀ j (hj : j < xs.length), cellIs wr w b (off + j * 2) (.string (ms xs[j].1)) ∧ cellIs wr w b (off + j * 2 + 1) (.string (ms xs[j].2)))) := by
  obtain ⟨a, cap, rfl, h1, h2, h3, h4⟩ := row_flat h
  refine ⟨a, cap, rfl, h1, h2, h3, h4.imp id ?_⟩
  rintro ⟨_, hne, b, off, rfl, rfl, hc⟩
  exact ⟨hne, b, off, rfl, rfl, fun j hj => ⟨hc j hj 0 _ rfl, by have := hc j hj 1 _ rfl; rwa [← Nat.add_assoc] at this⟩⟩
theorem row_rec_mk {wr : Bool} {w : World} {b off cap : Nat} {xs : List (List UInt8 × List UInt8)} (hg : ∀ x ∈ xs, recOk x) (h1 : xs.length ≤ cap) (h2 : cap ≤ 9223372036854775807) (hne : xs ≠ [])
    (hc : ∀ j (hj : j < xs.length), cellIs wr w b (off + j * 2) (.string (ms xs[j].1)) ∧ cellIs wr w b (off + j * 2 + 1) (.string (ms xs[j].2))) : recTy.row wr w (.slice (some ⟨b, off, none⟩) xs.length cap) xs [b] := by
  refine row_flat_mk hg h1 h2 hne (by decide) fun j hj i u hu => ?_
  match i, hu with
  | 0, hu => cases hu; exact (hc j hj).1
  | 1, hu => cases hu; rw [← Nat.add_assoc]; exact (hc j hj).2

set_option maxHeartbeats 1000000 in
theorem eqLogRecordS_same (v u : Value) (xs : List (List UInt8 × List UInt8)) (F G : List Nat) (w : World) (hx : recTy.row false w v xs F) (hy : recTy.row false w u xs G) :
    Calls Tryd.prog 34 #[v, u] w fun e w' => e = .returned (.bool true) ∧ Below w.heap.size w w' := by
  obtain ⟨a, c, rfl, hx1, hx2, _, hx3⟩ := row_rec hx
  obtain ⟨a', c', rfl, hy1, hy2, _, hy3⟩ := row_rec hy
  go_enter Tryd.func34, Tryd.ntmps34
  go_wp2_with fail
  go_loopw [5] (fun i wr => ∃ k : Nat, k ≤ xs.length ∧ i = .int .i64 k ∧ Below w.heap.size w wr) (fun i _ => xs.length - (intOf i).toNat)
  case atStart => exact ⟨0, Nat.zero_le _, rfl, bb _⟩
  case round =>
    obtain ⟨k, hk, rfl, hB⟩ := hrel
    by_cases hlt : k < xs.length
    · rcases hx3 with ⟨rfl, rfl⟩ | ⟨hxn, b, off, rfl, rfl, hxc⟩
      · exact absurd hlt (by simp)
      rcases hy3 with ⟨rfl, rfl⟩ | ⟨hyn, b', off', rfl, rfl, hyc⟩
      · exact absurd hlt (by simp)
      have k0 := ((hxc k hlt).1.keep (hB.block b (hxc k hlt).1.lt)).1
      have k1 := ((hxc k hlt).2.keep (hB.block b (hxc k hlt).2.lt)).1
      have k2 := ((hyc k hlt).1.keep (hB.block b' (hyc k hlt).1.lt)).1
      have k3 := ((hyc k hlt).2.keep (hB.block b' (hyc k hlt).2.lt)).1
      have z0 : b < wr.heap.size := World.block_lt_of_cell? _ _ k0
      have z2 : b' < wr.heap.size := World.block_lt_of_cell? _ _ k2
      go_wp2_with fail
      go_region_held3 (fun w' => w'.cell? ⟨b, off + k * 2, none⟩ = some (.string (ms xs[k].1)) ∧ w'.cell? ⟨b, off + k * 2 + 1, none⟩ = some (.string (ms xs[k].2)) ∧ w'.cell? ⟨b', off' + k * 2, none⟩ = some (.string (ms xs[k].1)) ∧ w'.cell? ⟨b', off' + k * 2 + 1, none⟩ = some (.string (ms xs[k].2))) (go_keep)
        (first | (go_at_call 71; (with_reducible refine (eqLogRecord_same _ _ _).mono ?_); rintro e w2 ⟨rfl, hb2⟩; have q0 := (fun o => (bcell hb2).1 b o z0); have q2 := (fun o => (bcell hb2).1 b' o z2)))
      all_goals
        go_wp2_with fail
        go_roundw
        case rel => exact ⟨k + 1, by omega, by go_num, (by repeat (first | exact bb _ | assumption | refine bal ?_ _ | refine bdr ?_ | refine bdn ?_ _ | refine bst ?_ (by simp <;> omega) _ | refine btr ?_ (by assumption)))⟩
        case measure => simp [intOf]; omega
    · go_wp2_with fail
      go_ret
      exact ⟨rfl, hB⟩
end Go.Proofs.YtfcekfomhpmgpaaDoor
