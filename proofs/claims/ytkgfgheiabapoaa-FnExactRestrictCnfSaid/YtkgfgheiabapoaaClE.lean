/- Contracts: what an assignment leaves of a clause, in the reference. -/
import Derived.Test.YtkgfgheiabapoaaClD
import Derived.Lib.OwnKind
namespace Go.Proofs.Ytkgfgheiabapoaa
open Go.RowKit

/-- What an assignment leaves of a clause. -/
def leftB (c a : List Int) : List Int := c.filter (fun l => !offB a l)
theorem left_le (c a : List Int) : (leftB c a).length ≤ c.length := List.length_filter_le _ _
theorem left_take (c a : List Int) (k : Nat) : (leftB (c.take k) a).length ≤ k := Nat.le_trans (left_le _ _) (by rw [List.length_take]; omega)
theorem left_step {c a : List Int} {k : Nat} {q : Bool} (hk : k < c.length) (h : hasI a (wrap64 (-c[k])) = q) : leftB (c.take (k + 1)) a = leftB (c.take k) a ++ (if q then [] else [c[k]]) := by
  unfold leftB
  rw [List.take_succ_eq_append_getElem hk, List.filter_append]
  cases q <;> simp [offB, h]

/-- What 'l3Left' has made so far. -/
def LeftRel (xs : List Int) (w wr : World) (v : Value) : Prop := wr.ownsRow w.heap.size 3 1 v xs.length (xs.map (Value.int .i64)) ∧ Below w.heap.size w wr

/-- Block b holds cells of type e. -/
def Kind (w : World) (e : TypeId) (b : Nat) : Prop := ∃ c fz, w.heap[b]? = some (.cells c e fz)
/-- A row of its own, in blocks of a type. -/
def OwnPostK {α : Type} (T : Ty α) (e0 : TypeId) (w : World) (xs : List α) (e : Ending) (w' : World) : Prop :=
  ∃ v F, e = .returned v ∧ T.row true w' v xs F ∧ F.Nodup ∧ (∀ b ∈ F, w.heap.size ≤ b ∧ Kind w' e0 b) ∧ Below w.heap.size w w'

theorem own_post {xs : List Int} {w wr : World} {v : Value} (h : LeftRel xs w wr v) (hi : ∀ x ∈ xs, I64 x) : OwnPostK Ty.int 3 w xs (.returned v) wr := by
  obtain ⟨h1, h2⟩ := h
  obtain ⟨F, hr, hF, _⟩ := Ty.row_of_owns h1 rfl (by decide) (Ty.all_int hi)
  refine ⟨v, F, rfl, hr, ?_, ?_, h2⟩
  · rcases hF with rfl | ⟨g, _, _, _, rfl⟩ <;> simp
  · rcases hF with rfl | ⟨g, hg, _, ho, rfl⟩
    · simp
    · intro b hb
      obtain rfl : b = g := by simpa using hb
      exact ⟨hg, Lib.ownsRow_kind h1 b ho⟩

set_option maxHeartbeats 2000000 in
theorem l3Left_any (v u : Value) (c a : List Int) (F G : List Nat) (w : World) (hx : Ty.int.row false w v c F) (hy : Ty.int.row false w u a G) (hc : c.length ≤ 100000000000) :
    Calls Try.prog 148 #[v, u] w (OwnPostK Ty.int 3 w (leftB c a)) := by
  obtain ⟨i0, hi, hz0, hz1, hz2⟩ := info_parts infoInt
  obtain ⟨ad, cap, rfl, hx1, hx2, hxI, hx3⟩ := row_int hx
  go_enter Try.func148, Try.ntmps148
  go_wp2_with fail
  go_loopw [5, 6] (fun s i wr => ∃ k : Nat, k ≤ c.length ∧ i = .int .i64 k ∧ LeftRel (leftB (c.take k) a) w wr s) (fun _ i _ => c.length - (intOf i).toNat)
  case atStart => exact ⟨0, Nat.zero_le _, rfl, World.ownsRow_made w #[] 0 (Nat.le_refl _) (by decide) rfl, bal (bb _) _⟩
  case round =>
    obtain ⟨k, hk, rfl, HR⟩ := hrel
    obtain ⟨hown, hB⟩ := id HR
    have hsz := hB.size
    have hy' := Ty.row_below hy hB (Ty.row_lt hy)
    have hlen := left_take c a k
    replace HR := Lib.hid HR
    by_cases hlt : k < c.length
    · rcases hx3 with ⟨rfl, rfl⟩ | ⟨hxn, b, off, rfl, rfl, hxc⟩
      · exact absurd hlt (by simp)
      have k0 := ((hxc k hlt).keep (hB.block b (hxc k hlt).lt)).1
      cases hn : hasI a (wrap64 (-c[k]))
      · have HS : Hid (leftB (c.take (k + 1)) a = leftB (c.take k) a ++ [c[k]]) := left_step hlt hn
        go_wp2_with (first
          | (go_at_call 172; (with_reducible refine (l2Has_at hy' hn).mono ?_); rintro e w1 ⟨rfl, rfl⟩)
          | (at_builtin; refine wpList_append_own _ rfl _ _ 22 rfl w.heap.size 3 i0 (.int .i64 0) 1 8 Try.underlying22 hi hz0 hz1 hz2 rfl (by decide) _ _ _ rfl (hown.alloc _) ⟨wr.heap.size, 0, none⟩ 1 1 [.int .i64 c[k]] rfl rfl ?c1 ?c2 ?c3 ?c4 ?c5 ?_))
        case c1 =>
          intro j u hj
          match j, hj with
          | 0, hj => simp at hj; subst hj; simp [Addr.add]
        case c2 => intro u hu; simp at hu; subst hu; rfl
        case c3 => unfold maxLen; omega
        case c4 => omega
        case c5 => simp; omega
        intro v' w1 hown' hgrow _
        have hB1 : Below w.heap.size w w1 := (hB.alloc hsz _).grown hgrow (by simp; omega) (fun q hq => (hown.lt q hq).1)
        have HN : Hid (LeftRel (leftB (c.take (k + 1)) a) w w1 v') := by
          unfold Hid LeftRel
          rw [HS.out]
          exact ⟨by simpa using hown', hB1⟩
        clear hown' hgrow hown hB HS
        go_wp2_with fail
        go_roundw
        case rel => exact ⟨k + 1, by omega, by go_num, HN.out⟩
        case measure => simp [intOf]; omega
      · have HS : Hid (leftB (c.take (k + 1)) a = leftB (c.take k) a) := (left_step hlt hn).trans (List.append_nil _)
        go_wp2_with (go_at_call 172; (with_reducible refine (l2Has_at hy' hn).mono ?_); rintro e w1 ⟨rfl, rfl⟩)
        go_roundw
        case rel => exact ⟨k + 1, by omega, by go_num, by rw [HS.out]; exact HR.out⟩
        case measure => simp [intOf]; omega
    · obtain rfl : k = c.length := by omega
      go_wp2_with fail
      go_ret
      have h := HR.out
      rw [List.take_length] at h
      exact own_post h (fun x hx => hxI x (List.mem_filter.1 hx).1)
end Go.Proofs.Ytkgfgheiabapoaa
