/- Contracts: rows of terms in the law; small functions on polynomials. -/
import Derived.Test.YtebhkfhdjdgokaaPolA
import Derived.Test.YtebhkfhdjdgokaaFlatC
import Derived.Test.YtebhkfhdjdgokaaMemB
import Derived.Test.YtebhkfhdjdgokaaStrA
import Derived.Lib.Hide
namespace Go.Proofs.Ytebhkfhdjdgokaa
open Go.RowKit

def tmEnc (t : Int × Int) : List Value := [.int .i64 t.1, .int .i64 t.2]
def tmGood (t : Int × Int) : Prop := I64 t.1 ∧ I64 t.2
abbrev tmTy : Ty (Int × Int) := Ty.flat 2 tmEnc tmGood (fun _ => rfl)
/-- The two cells of each term. -/
theorem row_tm {wr : Bool} {w : World} {v : Value} {xs : List (Int × Int)} {F : List Nat} (h : tmTy.row wr w v xs F) :
    ∃ a cap, v = .slice a xs.length cap ∧ xs.length ≤ cap ∧ cap ≤ 9223372036854775807 ∧ (∀ x ∈ xs, tmGood x) ∧
      ((xs = [] ∧ F = []) ∨ (xs ≠ [] ∧ ∃ b off, a = some ⟨b, off, none⟩ ∧ F = [b] ∧ ∀ j (hj : j < xs.length), cellIs wr w b (off + j * 2) (.int .i64 xs[j].1) ∧ cellIs wr w b (off + j * 2 + 1) (.int .i64 xs[j].2))) := by
  obtain ⟨a, cap, rfl, h1, h2, h3, h4⟩ := row_flat h
  refine ⟨a, cap, rfl, h1, h2, h3, h4.imp id ?_⟩
  rintro ⟨_, hne, b, off, rfl, rfl, hc⟩
  exact ⟨hne, b, off, rfl, rfl, fun j hj => ⟨hc j hj 0 _ rfl, by have := hc j hj 1 _ rfl; rwa [← Nat.add_assoc] at this⟩⟩

set_option maxHeartbeats 400000 in
theorem szTermS_any (a : Option Addr) (l c : Nat) (n : Int) (w : World) (h0 : 0 ≤ n) (h1 : n ≤ 1048576) (hl : l ≤ 9223372036854775807) :
    Calls Try.prog 7 #[.slice a l c, .int .i64 n] w fun e w' => e = .returned (.int .i64 (if n < (l : Int) then -1 else n - l)) ∧ w = w' := by
  go_enter Try.func7, Try.ntmps7
  go_wp2
  all_goals go_ret
  all_goals exact ⟨rfl, rfl⟩

set_option maxHeartbeats 400000 in
theorem toTerm_any (m c : Int) (w : World) :
    Calls Try.prog 32 #[.agg #[.int .i64 m, .int .i64 c]] w fun e w' => e = .returned (.agg #[.int .i64 m, .int .i64 c]) ∧ Below w.heap.size w w' := by
  go_enter Try.func32, Try.ntmps32
  go_wp2
  exact bodyPost_ret (v := .agg #[.int .i64 m, .int .i64 c]) (by simp [results, Try.results32, go_sem]) rfl ⟨rfl, (by repeat (first | exact bb _ | assumption | refine bal ?_ _ | refine bdr ?_ | refine bdn ?_ _ | refine bst ?_ (by simp <;> omega) _ | refine btr ?_ (by assumption)))⟩

set_option maxHeartbeats 400000 in
theorem eqTerm_same (m c : Int) (w : World) :
    Calls Try.prog 35 #[.agg #[.int .i64 m, .int .i64 c], .agg #[.int .i64 m, .int .i64 c]] w fun e w' => e = .returned (.bool true) ∧ Below w.heap.size w w' := by
  go_enter Try.func35, Try.ntmps35
  go_wp2
  go_ret
  exact ⟨rfl, (by repeat (first | exact bb _ | assumption | refine bal ?_ _ | refine bdr ?_ | refine bdn ?_ _ | refine bst ?_ (by simp <;> omega) _ | refine btr ?_ (by assumption)))⟩

set_option maxHeartbeats 1000000 in
theorem eqTermS_same (v u : Value) (xs : List (Int × Int)) (F G : List Nat) (w : World) (hx : tmTy.row false w v xs F) (hy : tmTy.row false w u xs G) :
    Calls Try.prog 11 #[v, u] w fun e w' => e = .returned (.bool true) ∧ Below w.heap.size w w' := by
  obtain ⟨a, c, rfl, hx1, hx2, _, hx3⟩ := row_tm hx
  obtain ⟨a', c', rfl, hy1, hy2, _, hy3⟩ := row_tm hy
  go_enter Try.func11, Try.ntmps11
  go_wp2_with fail
  go_loopw [5] (fun i wr => ∃ k : Nat, k ≤ xs.length ∧ i = .int .i64 k ∧ Below w.heap.size w wr) (fun i _ => xs.length - (intOf i).toNat)
  case atStart => exact ⟨0, Nat.zero_le _, rfl, bb _⟩
  case round =>
    obtain ⟨k, hk, rfl, hB⟩ := hrel
    by_cases hlt : k < xs.length
    · rcases hx3 with ⟨rfl, rfl⟩ | ⟨hxn, b, off, rfl, rfl, hxc⟩
      · exact absurd hlt (by simp)
      rcases hy3 with ⟨rfl, rfl⟩ | ⟨hyn, b', off', rfl, rfl, hyc⟩
      · exact absurd hlt (by simp)
      have k0 := cell_regrown ((hxc k hlt).1.keep (hB.block b (hxc k hlt).1.lt)).1
      have k1 := cell_regrown ((hxc k hlt).2.keep (hB.block b (hxc k hlt).2.lt)).1
      have k2 := cell_regrown ((hyc k hlt).1.keep (hB.block b' (hyc k hlt).1.lt)).1
      have k3 := cell_regrown ((hyc k hlt).2.keep (hB.block b' (hyc k hlt).2.lt)).1
      clear hxc hyc
      go_wp2_with fail
      refine wp_region_quiet_below (by kernel_rfl) (by kernel_rfl) ?_
      repeat (any_goals (first | go_big_quiet_step ((go_at_call 35; exact Calls.regrown_of (eqTerm_same _ _ _)))))
      refine wpQuiet_nil ?_
      rintro w1 ⟨p, rfl⟩
      go_wp2_with fail
      go_roundw
      case rel => exact ⟨k + 1, by omega, by go_num, hB.trans ((below_regrown _ _ _).mono hB.size)⟩
      case measure => simp [intOf]; omega
    · go_wp2_with fail
      go_ret
      exact ⟨rfl, hB⟩

theorem infoTm : (Try.prog.info? 59).map (fun i => (i.zero, i.size, i.bytes)) = some (some (.agg #[.int .i64 0, .int .i64 0]), 2, 16) := by kernel_rfl

set_option maxHeartbeats 1000000 in
theorem toTermS_any (v : Value) (xs : List (Int × Int)) (F : List Nat) (w : World) (hx : tmTy.row false w v xs F) (h1 : xs.length ≤ 100000000) :
    Calls Try.prog 9 #[v] w (OwnPost tmTy w xs) := by
  obtain ⟨i0, hi, hz0, hz1, hz2⟩ := info_parts infoTm
  obtain ⟨a, c, rfl, hx1, hx2, hxg, hx3⟩ := row_tm hx
  go_enter Try.func9, Try.ntmps9
  go_wp2_with (at_make; refine wpList_make_full _ rfl _ _ 26 rfl w.heap.size 59 i0 (.agg #[.int .i64 0, .int .i64 0]) 2 Try.underlying26 hi hz0 hz1 .i64 .i64 _ _ xs.length rfl rfl rfl rfl ?m1 ?m2 ?m3 ?_)
  case m1 => rw [hz2]; omega
  case m2 => unfold maxLen; omega
  case m3 => exact Nat.le_refl _
  intro w1 hown hgrow
  have hst : Hid (FlatAt tmEnc 2 w.heap.size xs.length (filled xs (0, 0) 0) w1 ∧ Below w.heap.size w w1) := by
    rw [filled_zero]
    exact ⟨FlatAt.made (z := (0, 0)) (zc := #[.int .i64 0, .int .i64 0]) rfl rfl hown, (bb w).grown hgrow (Nat.le_refl _) (fun k hk => by cases hk)⟩
  clear hown hgrow
  go_wp2_with fail
  go_loopw [4] (fun i wr => ∃ k : Nat, k ≤ xs.length ∧ i = .int .i64 k ∧ Hid (FlatAt tmEnc 2 w.heap.size xs.length (filled xs (0, 0) k) wr ∧ Below w.heap.size w wr)) (fun i _ => xs.length - (intOf i).toNat)
  case atStart => exact ⟨0, Nat.zero_le _, rfl, hst⟩
  case round =>
    obtain ⟨k, hk, rfl, HR⟩ := hrel
    by_cases hlt : k < xs.length
    · rcases hx3 with ⟨rfl, rfl⟩ | ⟨hxn, b, off, rfl, rfl, hxc⟩
      · exact absurd hlt (by simp)
      have hB := HR.out.2
      have k0 := ((hxc k hlt).1.keep (hB.block b (hxc k hlt).1.lt)).1
      have k1 := ((hxc k hlt).2.keep (hB.block b (hxc k hlt).2.lt)).1
      have hfs := Lib.hid (filled_succ xs (0, 0) k hlt)
      clear hxc hB hst
      generalize xs[k] = x at k0 k1 hfs
      obtain ⟨x1, x2⟩ := x
      go_wp2_with fail
      refine (toTerm_any _ _ _).mono ?_
      rintro e w2 ⟨rfl, hb2⟩
      have H2 := HR.out.1.grow hb2
      have z0 : (tmEnc (filled xs (0, 0) k k))[0]? = some (.int .i64 0) := by simp [filled, tmEnc]
      have z1 : (tmEnc (filled xs (0, 0) k k))[1]? = some (.int .i64 0) := by simp [filled, tmEnc]
      have y0 := H2.cell hlt z0
      have y1 := H2.cell hlt z1
      have q0 := H2.frozen hlt z0
      have q1 := H2.frozen hlt z1
      rw [Nat.add_zero] at y0 q0
      have HN := H2.set2 (fun _ => rfl) (k := k) (x := (x1, x2)) (u0 := .int .i64 x1) (u1 := .int .i64 x2) rfl
      rw [← hfs.out] at HN
      have HN2 := Lib.hid (And.intro HN (bst (bst (btr HR.out.2 hb2) (show w.heap.size ≤ (⟨w.heap.size, k * 2, none⟩ : Addr).block by simp) (.int .i64 x1)) (show w.heap.size ≤ (⟨w.heap.size, k * 2 + 1, none⟩ : Addr).block by simp) (.int .i64 x2)))
      clear HR H2 HN z0 z1 hb2 k0 k1
      go_wp2_with fail
      go_roundw
      case rel => exact ⟨k + 1, by omega, by go_num, HN2⟩
      case measure => simp [intOf]; omega
    · obtain rfl : k = xs.length := by omega
      go_wp2_with fail
      go_ret
      by_cases hne : xs = []
      · subst hne
        exact ⟨_, [], rfl, Ty.row_nil _ _ _ _ _ (by simp), by simp, by simp, HR.out.2⟩
      · exact ⟨_, [w.heap.size], rfl, HR.out.1.done.row hxg (Nat.le_refl _) (by omega) hne (by decide), by simp, by simp, HR.out.2⟩
end Go.Proofs.Ytebhkfhdjdgokaa
