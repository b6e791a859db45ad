/- Contracts: graphs copied. -/
import Derived.Test.YtebhkfhdjdgokaaChE
import Derived.Test.YtebhkfhdjdgokaaChH
import Derived.Test.YtebhkfhdjdgokaaHTail
import Derived.Lib.SliceRun
namespace Go.Proofs.Ytebhkfhdjdgokaa
open Go.RowKit

/-- A row that a list of parts owns, as a row. -/
theorem owns_row {α : Type} {T : Ty α} {w0 w : World} {ps : List Asn} {i : Nat} {size : Nat} {e : TypeId} {v : Value} {xs : List α} {cs : List Value} (h : Sp w0 w ps) (hi : ps[i]? = some (Own e size v xs.length cs)) (hT : T.size = size) (hs : 0 < size) (hall : T.all true w cs xs []) :
    Sp w0 w (ps.set i (Row T v xs)) := by
  obtain ⟨Fi, ⟨rfl, ho⟩, hF, hall2⟩ := h.upd hi
  obtain ⟨F, hr, hF2, _⟩ := Ty.row_of_owns ho hT hs hall
  refine hall2 w (Row T v xs) F (Chg.refl _ _) ⟨hr, ?_⟩ fun b hb => .inl ?_
  · rcases hF2 with rfl | ⟨g, _, _, _, rfl⟩ <;> simp
  · rcases hF2 with rfl | ⟨g, _, _, hg, rfl⟩
    · cases hb
    · rw [hg]; simpa using hb
theorem row_out {α : Type} {T : Ty α} {w w' : World} {v : Value} {xs : List α} (h : Sp w w' [Row T v xs]) : OwnPost T w xs (.returned v) w' := by
  obtain ⟨F, ⟨h1, h2⟩, h3⟩ := h.head
  exact ⟨v, F, rfl, h1, h2, h3, h.below⟩
theorem flat_one (xs : List (Int × Int)) : ∀ u ∈ xs.flatMap tmEnc, u.oneCell' = true := by
  intro u hu
  obtain ⟨x, _, hx⟩ := List.mem_flatMap.1 hu
  simp only [tmEnc, List.mem_cons, List.not_mem_nil, or_false] at hx
  rcases hx with rfl | rfl <;> rfl
theorem ints_one (xs : List Int) : ∀ u ∈ xs.map (Value.int .i64), u.oneCell' = true := by
  intro u hu
  obtain ⟨x, _, rfl⟩ := List.mem_map.1 hu
  rfl
theorem row_src_tm {wr : Bool} {w : World} {v : Value} {xs : List (Int × Int)} {F : List Nat} (h : tmTy.row wr w v xs F) : ∃ A c, v = .slice A xs.length c ∧ Src w A xs.length 2 (xs.flatMap tmEnc) ∧ (∀ w', tmTy.all true w' (xs.flatMap tmEnc) xs []) := by
  obtain ⟨A, c, cs, G, rfl, hall, hs, _⟩ := row_src h
  obtain ⟨rfl, hg, _⟩ := flat_all.1 hall
  exact ⟨A, c, rfl, hs, fun w' => flat_all.2 ⟨rfl, hg, rfl⟩⟩
theorem row_src_in {wr : Bool} {w : World} {v : Value} {xs : List Int} {F : List Nat} (h : Ty.int.row wr w v xs F) : ∃ A c, v = .slice A xs.length c ∧ Src w A xs.length 1 (xs.map (.int .i64)) ∧ (∀ w', Ty.int.all true w' (xs.map (.int .i64)) xs []) := by
  obtain ⟨A, c, cs, G, rfl, hall, hs, _⟩ := row_src h
  obtain ⟨rfl, _, hg⟩ := Ty.all_int_inv hall
  exact ⟨A, c, rfl, hs, fun w' => Ty.all_int hg⟩

set_option maxRecDepth 100000 in
set_option maxHeartbeats 1000000 in
theorem cloneE_any (v : Value) (xs : List (Int × Int)) (F : List Nat) (w : World) (hx : tmTy.row false w v xs F) (hl : xs.length ≤ 100) :
    Calls Try.prog 78 #[v] w (OwnPost tmTy w xs) := by
  obtain ⟨i0, hi, hz0, hz1, hz2⟩ := info_parts infoPair
  have qT : ∀ (w : World) (a : Option Addr) (n c n' c' : Nat), (binOp .eql 30 (.slice a n c) (.slice none n' c')).run Try.prog w = .ok (.bool a.isNone) w := fun w a n c n' c' => Lib.run_eql_slice_nil w _ _ a n c n' c' Try.underlying30
  have S0 := (Sp.start w).own_made 85 2
  obtain ⟨A, c, rfl, hsrc, hall⟩ := row_src_tm (Ty.row_grow hx S0.below)
  replace S0 := Lib.hid S0
  replace hall := Lib.hid hall
  cases A with
  | none =>
    obtain ⟨_, hc, _⟩ := Ty.row_len hx
    have he : xs = [] := by
      rcases hsrc with ⟨h, _⟩ | ⟨ad, h, _⟩
      · exact List.length_eq_zero_iff.1 h
      · cases h
    subst he
    go_enter Try.func78, Try.ntmps78
    go_wp2_with fail
    go_ret
    exact ⟨_, [], rfl, Ty.row_nil _ _ _ _ _ (by omega), by simp, by simp, bb _⟩
  | some ad =>
    go_enter Try.func78, Try.ntmps78
    go_wp2_with (at_builtin; refine wpList_append_src rfl _ _ rfl Try.underlying30 hi hz0 hz1 hz2 rfl (by decide) _ _ _ rfl (S0.out.own (i := 0) rfl) (some ad) xs.length c _ rfl hsrc (flat_one xs) ?c3 ?c4 ?_)
    case c3 => unfold maxLen; omega
    case c4 => omega
    intro v' w1 hown hg hat
    have S1 := S0.out.own_push (i := 0) rfl (bb _) hown hg (by simpa using hat)
    have S2 := Lib.hid (owns_row (T := tmTy) (i := 0) S1 rfl rfl (by decide) (hall.out _))
    obtain ⟨a', c', rfl⟩ := owns_form hown
    clear S1 S0 hown hg hat hsrc
    go_wp2_with fail
    go_ret
    exact row_out (by simpa using S2.out)

set_option maxRecDepth 100000 in
set_option maxHeartbeats 1000000 in
theorem cloneI_any (v : Value) (xs : List Int) (F : List Nat) (w : World) (hx : Ty.int.row false w v xs F) (hl : xs.length ≤ 100) :
    Calls Try.prog 79 #[v] w (OwnPost Ty.int w xs) := by
  obtain ⟨i0, hi, hz0, hz1, hz2⟩ := info_parts infoInt
  have qT : ∀ (w : World) (a : Option Addr) (n c n' c' : Nat), (binOp .eql 31 (.slice a n c) (.slice none n' c')).run Try.prog w = .ok (.bool a.isNone) w := fun w a n c n' c' => Lib.run_eql_slice_nil w _ _ a n c n' c' Try.underlying31
  have S0 := (Sp.start w).own_made 3 1
  obtain ⟨A, c, rfl, hsrc, hall⟩ := row_src_in (Ty.row_grow hx S0.below)
  replace S0 := Lib.hid S0
  replace hall := Lib.hid hall
  cases A with
  | none =>
    obtain ⟨_, hc, _⟩ := Ty.row_len hx
    have he : xs = [] := by
      rcases hsrc with ⟨h, _⟩ | ⟨ad, h, _⟩
      · exact List.length_eq_zero_iff.1 h
      · cases h
    subst he
    go_enter Try.func79, Try.ntmps79
    go_wp2_with fail
    go_ret
    exact ⟨_, [], rfl, Ty.row_nil _ _ _ _ _ (by omega), by simp, by simp, bb _⟩
  | some ad =>
    go_enter Try.func79, Try.ntmps79
    go_wp2_with (at_builtin; refine wpList_append_src rfl _ _ rfl Try.underlying31 hi hz0 hz1 hz2 rfl (by decide) _ _ _ rfl (S0.out.own (i := 0) rfl) (some ad) xs.length c _ rfl hsrc (ints_one xs) ?c3 ?c4 ?_)
    case c3 => unfold maxLen; omega
    case c4 => omega
    intro v' w1 hown hg hat
    have S1 := S0.out.own_push (i := 0) rfl (bb _) hown hg (by simpa using hat)
    have S2 := Lib.hid (owns_row (T := Ty.int) (i := 0) S1 rfl rfl (by decide) (hall.out _))
    obtain ⟨a', c', rfl⟩ := owns_form hown
    clear S1 S0 hown hg hat hsrc
    go_wp2_with fail
    go_ret
    exact row_out (by simpa using S2.out)
end Go.Proofs.Ytebhkfhdjdgokaa
