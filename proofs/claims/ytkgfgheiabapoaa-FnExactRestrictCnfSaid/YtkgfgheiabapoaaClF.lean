/- Contracts: what an assignment leaves of a clause, in the program. -/
import Derived.Test.YtkgfgheiabapoaaClE
import Derived.Shelf.SlicesE.DeleteFunc
namespace Go.Proofs.Ytkgfgheiabapoaa
open Go.RowKit Go.Shelf

def delRen : Go.Shelf.Ren := ⟨fun | 6 => 185 | 10 => 173 | n => n, fun | 22 => 22 | 23 => 3 | 25 => 109 | n => n, fun | n => n⟩

theorem delLay : SlLaysH.n10 Try.prog delRen := {
  mixed := by kernel_rfl
  f6 := ⟨Try.f185.name, by kernel_rfl, Try.func185.trans (congrArg some (by kernel_rfl))⟩
  f10 := ⟨Try.f173.name, by kernel_rfl, Try.func173.trans (congrArg some (by kernel_rfl))⟩
  t0 := Try.underlying0
  a0 := Try.isAgg0
  z0 := Try.sizeOf0
  v0 := Try.zeroValue0
  t3 := Try.underlying3
  a3 := Try.isAgg3
  z3 := Try.sizeOf3
  v3 := Try.zeroValue3
  t4 := Try.underlying4
  a4 := Try.isAgg4
  z4 := Try.sizeOf4
  v4 := Try.zeroValue4
  t22 := Try.underlying22
  a22 := Try.isAgg22
  z22 := Try.sizeOf22
  v22 := Try.zeroValue22
  a23 := Try.isAgg3
  z23 := Try.sizeOf3
  t25 := Try.underlying109
  a25 := Try.isAgg109
  z25 := Try.sizeOf109
  v25 := Try.zeroValue109 }

theorem heap_sortWorld (enc : Int → Value) (W : World) (blk off n : Nat) (dk : Array Int) (os : Array Obj) {b : Nat} (hb : b < W.heap.size) (hne : b ≠ blk) : (Go.Proofs.sortWorld enc W blk off n dk os).heap[b]? = W.heap[b]? := by
  unfold Go.Proofs.sortWorld
  rw [Sort.heap_grow_old _ _ (by rw [Sort.size_putRow]; exact hb)]
  simp only [Sort.putRow, Sort.mapBlock, Sort.ahead, Array.getElem?_modify]
  rw [if_neg (fun e => hne e.symm)]

/-- The closure of 'openPart' asks whether the opposite literal is in the row. -/
theorem openPart1_gives (a : List Int) (u : Value) (G : List Nat) (l : Int) (B : Nat) (W : World) (hc : W.cell? ⟨B, 0, none⟩ = some u) (hy : Ty.int.row false W u a G) :
    FnGives Try.prog 174 #[.pointer (some ⟨B, 0, none⟩)] #[.int .i64 l] (.bool (offB a l)) W := by
  show Calls Try.prog 174 #[.int .i64 l, .pointer (some ⟨B, 0, none⟩)] W _
  obtain ⟨q, hq⟩ : ∃ q, hasI a (wrap64 (-l)) = q := ⟨_, rfl⟩
  have hd : Hid (offB a l = q) := hq
  go_enter Try.func174, Try.ntmps174
  go_wp2_with (go_at_call 67; (with_reducible refine (containsInt_at hy hq).mono ?_); rintro e w1 ⟨rfl, rfl⟩)
  go_ret
  exact ⟨ret_bool hd.out.symm, 0, rfl⟩

/-- DeleteFunc and IndexFunc at nil. -/
theorem indexNil (n c : Nat) (fv : Value) (w : World) : Calls Try.prog 185 #[.slice none 0 c, fv] w fun e w' => e = .returned (.int .i64 (-1)) ∧ w = w' := by
  go_enter Try.func185, Try.ntmps185
  go_wp2_with fail
  refine wp_loop_rounds 1 ?_
  rw [rounds_succ]
  go_wp2_with fail
  go_ret
  exact ⟨rfl, rfl⟩
theorem deleteNil (c : Nat) (fv : Value) (w : World) : Calls Try.prog 173 #[.slice none 0 c, fv] w fun e w' => e = .returned (.slice none 0 c) ∧ w = w' := by
  go_enter Try.func173, Try.ntmps173
  go_wp2_with (go_at_call 185; refine (indexNil 0 c fv _).mono ?_; rintro e w1 ⟨rfl, rfl⟩)
  go_ret
  exact ⟨rfl, rfl⟩

/-- DeleteFunc at an own row with the closure of 'openPart'. -/
theorem delete_own (a c : List Int) (u : Value) (G : List Nat) (B g cap : Nat) (W : World) (hc : W.cell? ⟨B, 0, none⟩ = some u) (hy : Ty.int.row false W u a G) (hB : B < W.heap.size) (hne : B ≠ g) (hG : g ∉ G) (hg : g < W.heap.size)
    (hcells : ∀ j (hj : j < c.length), cellIs true W g (0 + j) (.int .i64 c[j])) (h1 : c.length ≤ cap) (h2 : cap ≤ 9223372036854775807) (hI : ∀ x ∈ c, I64 x) :
    Calls Try.prog 173 #[.slice (some ⟨g, 0, none⟩) c.length cap, .func (.func 174) #[] #[.pointer (some ⟨B, 0, none⟩)]] W fun e w' =>
      ∃ F, e = .returned (.slice (some ⟨g, 0, none⟩) (leftB c a).length cap) ∧ Ty.int.row true w' (.slice (some ⟨g, 0, none⟩) (leftB c a).length cap) (leftB c a) F ∧ (F = [] ∨ F = [g]) ∧ Below g W w' ∧ (∀ e0, Kind W e0 g → Kind w' e0 g) := by
  have eg : ∀ args w, (callFunc 174 args).run Try.prog w = .ok (.enter 174 args) w := enters_of Try.func174 (by kernel_rfl) rfl
  have hp : PredAt Try.prog 174 #[.pointer (some ⟨B, 0, none⟩)] (Value.int .i64) (offB a) W := fun W' x hb =>
    openPart1_gives a u G x B W' ((hb.cell (p := ⟨B, 0, none⟩) hB).trans hc) (Ty.row_below hy hb (Ty.row_lt hy))
  have hpo : PredOver Try.prog 174 #[.pointer (some ⟨B, 0, none⟩)] (Value.int .i64) (offB a) g 0 c.toArray.size W := fun n os dk x _ =>
    openPart1_gives a u G x B _ (by
      have := heap_sortWorld (Value.int .i64) W g 0 n dk os hB hne
      unfold World.cell? at hc ⊢
      rw [this]; exact hc) (Ty.row_keep hy (fun b hb => heap_sortWorld _ _ _ _ _ _ _ (Ty.row_lt hy b hb) (fun e => hG (e ▸ hb))))
  have hH : Sort.Holds (Value.int .i64) W g 0 c.toArray := fun j hj => by
    have hj' : j < c.length := by simpa using hj
    have h := hcells j hj'
    rw [getElem!_pos c.toArray j hj]
    exact ⟨h.1, h.2 rfl⟩
  have hcon := AnyE.slices_DeleteFunc delLay (Value.int .i64) (fun _ => rfl) (offB a) 174 #[.pointer (some ⟨B, 0, none⟩)] eg 0 Try.zeroValue3 g 0 cap c.toArray W hp hpo hH (by simp; omega) (by simpa using h1)
  change Calls Try.prog 173 _ _ _ at hcon
  refine hcon.mono ?_
  have hK : ∀ q, Sort.Holds (Value.int .i64) (Sort.putRow (Value.int .i64) (Sort.ahead W q) g 0 ((leftB c a) ++ List.replicate (c.toArray.size - (leftB c a).length) 0).toArray) g 0 ((leftB c a) ++ List.replicate (c.toArray.size - (leftB c a).length) 0).toArray := fun q =>
    Sort.holds_putRow _ _ _ _ c.toArray _ (Sort.holds_ahead _ _ q _ _ _ hH) (by have := left_le c a; simp; omega)
  have hle := left_le c a
  have hR : ∀ x ∈ leftB c a, I64 x := fun x hx => hI x (List.mem_filter.1 hx).1
  rintro e w' ⟨rfl, q, rfl⟩
  replace hK := hK q
  have hBel : Below g W (Sort.putRow (Value.int .i64) (Sort.ahead W q) g 0 ((leftB c a) ++ List.replicate (c.toArray.size - (leftB c a).length) 0).toArray) :=
    ⟨rfl, rfl, rfl, by rw [Sort.size_putRow]; exact Nat.le_refl _, fun b hb => by simp only [Sort.putRow, Sort.mapBlock, Sort.ahead, Array.getElem?_modify]; rw [if_neg (by omega)]⟩
  have hKi : ∀ e0, Kind W e0 g → Kind (Sort.putRow (Value.int .i64) (Sort.ahead W q) g 0 ((leftB c a) ++ List.replicate (c.toArray.size - (leftB c a).length) 0).toArray) e0 g := by
    rintro e0 ⟨cc, fz, h⟩
    unfold Kind
    simp only [Sort.putRow, Sort.mapBlock, Sort.ahead, Array.getElem?_modify, if_true, h]
    exact ⟨_, _, rfl⟩
  change ∃ F, Ending.returned (Value.slice (some ⟨g, 0, none⟩) (leftB c a).length cap) = _ ∧ _
  by_cases hne : leftB c a = []
  · refine ⟨[], rfl, ?_, .inl rfl, hBel, hKi⟩
    rw [hne]
    exact Ty.row_nil _ _ _ _ _ h2
  · refine ⟨[g], rfl, row_int_mk hR (by omega) h2 hne (fun j hj => ?_), .inr rfl, hBel, hKi⟩
    have h := hK j (by simp; omega)
    rw [getElem!_pos _ j (by simp; omega)] at h
    refine ⟨h.1.trans ?_, fun _ => h.2⟩
    simp [hj]
end Go.Proofs.Ytkgfgheiabapoaa
