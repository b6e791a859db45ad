/- Lemmas and contracts for a law, put together out of several texts: FlatC LtB LtC TnA LtD BrA LtE MdA MdB MdC MdD MdE MdF MdP MdT CoA CoB. -/
import Derived.Test.YtahbepajeplcmaaGreatDoorMg2
import Derived.OwnWalk
import Derived.Laws.OwnMore
import Derived.Test.YtahbepajeplcmaaGreatDoorMg5
import Derived.Test.YtahbepajeplcmaaGreatDoorMg3
import Derived.Test.YtahbepajeplcmaaGreatDoorMg1
import Derived.Lib.SmallJoins
import Derived.Laws.AppendOwn
import Derived.Test.YtahbepajeplcmaaGreatDoorMg4
import Derived.Deep.DeepCutAuto
import Derived.Lib.SliceRun
import Derived.Lib.Hide
/- Memory facts: rows of flat elements that are made and then filled, element by element. No program in sight. -/
namespace Go.Proofs.YtahbepajeplcmaaGreatDoor
open Go.RowKit

/-- The elements f 0, f 1, .. lie in block B, one behind the other, and may be written. -/
def FlatAt {α : Type} (enc : α → List Value) (n B len : Nat) (f : Nat → α) (w : World) : Prop := ∀ j, j < len → ∀ (i : Nat) (u : Value), (enc (f j))[i]? = some u → cellIs true w B (j * n + i) u

section
variable {α : Type} {enc : α → List Value} {n B len : Nat} {f : Nat → α} {w w' : World}
theorem FlatAt.grow (h : FlatAt enc n B len f w) (hb : Below w.heap.size w w') : FlatAt enc n B len f w' := fun j hj i u hu =>
  (h j hj i u hu).keep (hb.block B (h j hj i u hu).lt)
theorem FlatAt.mono {len' : Nat} {g : Nat → α} (h : FlatAt enc n B len f w) (hl : len' ≤ len) (hg : ∀ j, j < len' → g j = f j) : FlatAt enc n B len' g w := fun j hj i u hu =>
  h j (by omega) i u (by rw [← hg j hj]; exact hu)
theorem FlatAt.cell (h : FlatAt enc n B len f w) {j : Nat} (hj : j < len) {i : Nat} {u : Value} (hu : (enc (f j))[i]? = some u) : w.cell? ⟨B, j * n + i, none⟩ = some u := (h j hj i u hu).1
theorem FlatAt.frozen (h : FlatAt enc n B len f w) {j : Nat} (hj : j < len) {i : Nat} {u : Value} (hu : (enc (f j))[i]? = some u) : w.frozen? ⟨B, j * n + i, none⟩ = false := (h j hj i u hu).2 rfl
/-- Behind make: every element is the zero value. -/
theorem FlatAt.made {base : Nat} {e : TypeId} {cap : Nat} {z : α} {zc : Array Value} (hz : enc z = zc.toList) (hn : zc.size = n) (h : w.ownsRow base e n (.slice (some ⟨B, 0, none⟩) len cap) len (madeCells zc (len * n)).toList) : FlatAt enc n B len (fun _ => z) w := by
  intro j hj i u hu
  have hi : i < n := by
    have := (List.getElem?_eq_some_iff.1 hu).1
    rw [hz, Array.length_toList, hn] at this
    exact this
  have hlt : j * n + i < len * n := by
    have : (j + 1) * n ≤ len * n := Nat.mul_le_mul_right n hj
    rw [Nat.add_mul] at this; omega
  refine ⟨?_, fun _ => h.frozenAt _⟩
  rw [h.cellAt _ hlt, Array.getElem?_toList]
  have hm : (j * n + i) % n = i := by rw [Nat.mul_comm, Nat.mul_add_mod, Nat.mod_eq_of_lt hi]
  rw [hz, Array.getElem?_toList] at hu
  unfold madeCells
  rw [Array.getElem?_map, Array.getElem?_range, if_pos hlt]
  simp only [Option.map_some, hn, hm]
  rw [getElem!_def, hu]
/-- The finished row. -/
theorem FlatAt.row {good : α → Prop} {hne : ∀ x, (enc x).length = n} {xs : List α} {z : α} {cap : Nat} (h : FlatAt enc n B xs.length (fun j => xs.getD j z) w) (hg : ∀ x ∈ xs, good x) (h1 : xs.length ≤ cap) (h2 : cap ≤ 9223372036854775807) (hx : xs ≠ []) (h0 : 0 < n) :
    (Ty.flat n enc good hne).row true w (.slice (some ⟨B, 0, none⟩) xs.length cap) xs [B] := by
  refine row_flat_mk hg h1 h2 hx h0 fun j hj i u hu => ?_
  rw [Nat.zero_add]
  refine h j hj i u ?_
  show (enc (xs.getD j z))[i]? = some u
  rw [List.getD_eq_getElem?_getD, List.getElem?_eq_getElem hj]
  exact hu
theorem set_ne' (w : World) {b o o' : Nat} {u : Value} (h : o ≠ o') : (w.setCell ⟨b, o, none⟩ u).cell? ⟨b, o', none⟩ = w.cell? ⟨b, o', none⟩ := World.cell?_setCell_other w _ _ _ (by simp only [ne_eq, Addr.mk.injEq]; omega)
theorem set_eq' (w : World) {b o : Nat} {u v : Value} (h : w.cell? ⟨b, o, none⟩ = some v) : (w.setCell ⟨b, o, none⟩ u).cell? ⟨b, o, none⟩ = some u := World.cell?_setCell_same' _ _ _ (by rw [h]; rfl)
/-- An element of one cell is stored. -/
theorem FlatAt.set1 {f : Nat → α} (hn : ∀ x, (enc x).length = 1) (h : FlatAt enc 1 B len f w) {k : Nat} {x : α} {u0 : Value} (he : enc x = [u0]) :
    FlatAt enc 1 B len (fun j => if j = k then x else f j) (w.setCell ⟨B, k, none⟩ u0) := by
  intro j hj i u hu
  have hi : i < 1 := by have := (List.getElem?_eq_some_iff.1 hu).1; rwa [hn] at this
  obtain rfl : i = 0 := by omega
  have hold : ∃ v, (enc (f j))[0]? = some v := ⟨_, List.getElem?_eq_getElem (by rw [hn]; decide)⟩
  obtain ⟨v, hv⟩ := hold
  have hc := h j hj 0 v hv
  refine ⟨?_, fun _ => by rw [World.frozen?_setCell]; exact hc.2 rfl⟩
  by_cases e : j = k
  · subst e
    simp only [if_true, he] at hu
    simp at hu; subst hu
    have := hc.1
    rw [Nat.mul_one, Nat.add_zero] at this ⊢
    exact set_eq' w this
  · simp only [if_neg e] at hu
    rw [set_ne' w (by omega)]
    rw [hv] at hu; cases hu
    exact hc.1
/-- An element of two cells is stored. -/
theorem FlatAt.set2 {f : Nat → α} (hn : ∀ x, (enc x).length = 2) (h : FlatAt enc 2 B len f w) {k : Nat} {x : α} {u0 u1 : Value} (he : enc x = [u0, u1]) :
    FlatAt enc 2 B len (fun j => if j = k then x else f j) ((w.setCell ⟨B, k * 2, none⟩ u0).setCell ⟨B, k * 2 + 1, none⟩ u1) := by
  intro j hj i u hu
  have hi : i < 2 := by have := (List.getElem?_eq_some_iff.1 hu).1; rwa [hn] at this
  obtain ⟨v, hv⟩ : ∃ v, (enc (f j))[i]? = some v := ⟨_, List.getElem?_eq_getElem (by rw [hn]; exact hi)⟩
  have hc := h j hj i v hv
  refine ⟨?_, fun _ => by rw [World.frozen?_setCell, World.frozen?_setCell]; exact hc.2 rfl⟩
  by_cases e : j = k
  · subst e
    simp only [if_true, he] at hu
    match i, hi, hu with
    | 0, _, hu =>
      simp at hu; subst hu
      rw [set_ne' _ (by omega)]
      exact set_eq' w hc.1
    | 1, _, hu =>
      simp at hu; subst hu
      exact set_eq' _ ((set_ne' w (by omega)).trans hc.1)
  · simp only [if_neg e] at hu
    rw [set_ne' _ (by omega), set_ne' w (by omega)]
    rw [hv] at hu; cases hu
    exact hc.1
/-- An element of four cells is stored. -/
theorem FlatAt.set4 {f : Nat → α} (hn : ∀ x, (enc x).length = 4) (h : FlatAt enc 4 B len f w) {k : Nat} {x : α} {u0 u1 u2 u3 : Value} (he : enc x = [u0, u1, u2, u3]) :
    FlatAt enc 4 B len (fun j => if j = k then x else f j) ((((w.setCell ⟨B, k * 4, none⟩ u0).setCell ⟨B, k * 4 + 1, none⟩ u1).setCell ⟨B, k * 4 + 2, none⟩ u2).setCell ⟨B, k * 4 + 3, none⟩ u3) := by
  intro j hj i u hu
  have hi : i < 4 := by have := (List.getElem?_eq_some_iff.1 hu).1; rwa [hn] at this
  obtain ⟨v, hv⟩ : ∃ v, (enc (f j))[i]? = some v := ⟨_, List.getElem?_eq_getElem (by rw [hn]; exact hi)⟩
  have hc := h j hj i v hv
  refine ⟨?_, fun _ => by rw [World.frozen?_setCell, World.frozen?_setCell, World.frozen?_setCell, World.frozen?_setCell]; exact hc.2 rfl⟩
  by_cases e : j = k
  · subst e
    simp only [if_true, he] at hu
    match i, hi, hu with
    | 0, _, hu =>
      simp at hu; subst hu
      rw [set_ne' _ (by omega), set_ne' _ (by omega), set_ne' _ (by omega)]
      exact set_eq' w hc.1
    | 1, _, hu =>
      simp at hu; subst hu
      rw [set_ne' _ (by omega), set_ne' _ (by omega)]
      exact set_eq' _ ((set_ne' w (by omega)).trans hc.1)
    | 2, _, hu =>
      simp at hu; subst hu
      rw [set_ne' _ (by omega)]
      exact set_eq' _ ((set_ne' _ (by omega)).trans ((set_ne' w (by omega)).trans hc.1))
    | 3, _, hu =>
      simp at hu; subst hu
      exact set_eq' _ ((set_ne' _ (by omega)).trans ((set_ne' _ (by omega)).trans ((set_ne' w (by omega)).trans hc.1)))
  · simp only [if_neg e] at hu
    rw [set_ne' _ (by omega), set_ne' _ (by omega), set_ne' _ (by omega), set_ne' w (by omega)]
    rw [hv] at hu; cases hu
    exact hc.1
end

/-- What has been copied so far: the first k elements, zeros behind. -/
def filled {α : Type} (xs : List α) (z : α) (k : Nat) (j : Nat) : α := if j < k then xs.getD j z else z
theorem filled_zero {α : Type} (xs : List α) (z : α) : filled xs z 0 = fun _ => z := by funext j; simp [filled]
theorem filled_succ {α : Type} (xs : List α) (z : α) (k : Nat) (hk : k < xs.length) : filled xs z (k + 1) = fun j => if j = k then xs[k] else filled xs z k j := by
  funext j
  unfold filled
  by_cases e : j = k
  · subst e
    rw [if_pos (by omega), if_pos rfl, List.getD_eq_getElem?_getD, List.getElem?_eq_getElem hk]; rfl
  · rw [if_neg e]
    by_cases h : j < k
    · rw [if_pos (by omega), if_pos h]
    · rw [if_neg (by omega), if_neg h]
theorem FlatAt.done {α : Type} {enc : α → List Value} {n B : Nat} {w : World} {xs : List α} {z : α} (h : FlatAt enc n B xs.length (filled xs z xs.length) w) : FlatAt enc n B xs.length (fun j => xs.getD j z) w :=
  h.mono (Nat.le_refl _) fun j hj => by unfold filled; rw [if_pos hj]
end Go.Proofs.YtahbepajeplcmaaGreatDoor

/- Contracts: the text of a clause, in the program. -/
namespace Go.Proofs.YtahbepajeplcmaaGreatDoor
open Go.RowKit

theorem infoStrL : (Tryz.prog.info? 9).map (fun i => (i.zero, i.size, i.bytes)) = some (some (.string ByteArray.empty), 1, 16) := by kernel_rfl
def txEnc (s : List UInt8) : List Value := [.string (ms s)]
theorem wordsAt {B n : Nat} {xs : List (List UInt8)} {w : World} (h : FlatAt txEnc 1 B n (filled xs [] n) w) (hn : xs.length = n) : ∀ (j : Nat) (x : ByteArray), (xs.map ms)[j]? = some x → w.cell? ⟨B, 0 + j, none⟩ = some (.string x) := by
  intro j x hj
  rw [List.getElem?_map] at hj
  cases hx : xs[j]? with
  | none => rw [hx] at hj; cases hj
  | some y =>
    rw [hx] at hj
    simp only [Option.map_some, Option.some.injEq] at hj
    subst hj
    have hjl := (List.getElem?_eq_some_iff.1 hx).1
    have := h.cell (j := j) (by omega) (i := 0) (u := .string (ms y)) (by
      simp only [filled, if_pos (show j < n by omega), List.getD_eq_getElem?_getD, hx]; rfl)
    rw [Nat.mul_one, Nat.add_zero] at this
    rw [Nat.zero_add]
    exact this
theorem map_ms_data (xs : List (List UInt8)) : (xs.map ms).map (·.data.toList) = xs := by
  rw [List.map_map]
  conv => rhs; rw [← List.map_id xs]
  exact List.map_congr_left fun x _ => by simp [ms]
theorem lens_le (k : Nat) : ∀ (xs : List (List UInt8)), (∀ x ∈ xs, x.length ≤ k) → Lib.lens xs ≤ xs.length * k
  | [], _ => by simp [Lib.lens]
  | x :: xs, h => by
    have h1 := lens_le k xs fun y hy => h y (by simp [hy])
    have h2 := h x (by simp)
    simp only [Lib.lens, List.map_cons, List.sum_cons, List.length_cons, Nat.add_mul, Nat.one_mul] at *
    omega
theorem itoa_short2 {z : Int} (h0 : -1000000 ≤ z) (h1 : z ≤ 1000000) : (Lib.itoa z).length ≤ 14 := itoa_short h0 h1
theorem join_short {c : List Int} (h : c ≠ []) (hc : ∀ l ∈ c, -1000000 ≤ l ∧ l ≤ 1000000) : (Lib.join (c.map Lib.itoa) [32]).length ≤ 15 * c.length := by
  have h1 := join_len (xs := c.map Lib.itoa) (by simpa using h) 32
  have h2 := lens_le 14 (c.map Lib.itoa) (fun x hx => by
    obtain ⟨l, hl, rfl⟩ := List.mem_map.1 hx
    exact itoa_short (hc l hl).1 (hc l hl).2)
  rw [List.length_map] at h1 h2
  omega

set_option maxRecDepth 100000 in
set_option maxHeartbeats 4000000 in
theorem digits_any (c : List Int) (A : Option Addr) (cap : Nat) (w : World) (hE : Env w) (hx : IntsAt w A c) (h0 : c ≠ []) (hc : ∀ l ∈ c, -1000000 ≤ l ∧ l ≤ 1000000) (hl : c.length ≤ 1000) :
    Calls Tryz.prog 153 #[.slice A c.length cap, .string ⟨#[32]⟩] w fun e w' => e = .returned (.string (ms (Lib.join (c.map Lib.itoa) [32]))) ∧ Below w.heap.size w w' := by
  obtain ⟨i0, hi, hz0, hz1, hz2⟩ := info_parts infoStrL
  have hEH := Lib.hid hE
  have hN := Lib.hid hx
  have hjs := join_short h0 hc
  clear hE hx
  have hpos : 0 < c.length := List.length_pos_iff.2 h0
  go_enter Tryz.func153, Tryz.ntmps153
  go_wp2_with (at_make; refine wpList_make_full _ rfl _ _ 37 rfl w.heap.size 9 i0 (.string ByteArray.empty) 1 Tryz.underlying37 hi hz0 hz1 .i64 .i64 _ _ c.length rfl rfl rfl rfl ?m1 ?m2 ?m3 ?_)
  case m1 => rw [hz2]; omega
  case m2 => unfold maxLen; omega
  case m3 => exact Nat.le_refl _
  intro w1 hown hgrow
  have hst : Hid (FlatAt txEnc 1 w.heap.size c.length (filled (c.map Lib.itoa) [] 0) w1 ∧ Below w.heap.size w w1) := by
    rw [filled_zero]
    exact ⟨FlatAt.made (z := ([] : List UInt8)) (zc := #[.string ByteArray.empty]) rfl rfl (by rw [Nat.mul_one]; exact hown), (bb w).grown hgrow (Nat.le_refl _) (fun k hk => by cases hk)⟩
  clear hown hgrow
  go_wp2_with fail
  go_loopw [13] (fun i wr => ∃ k : Nat, k ≤ c.length ∧ i = .int .i64 k ∧ Hid (FlatAt txEnc 1 w.heap.size c.length (filled (c.map Lib.itoa) [] k) wr ∧ Below w.heap.size w wr)) (fun i _ => c.length - (intOf i).toNat)
  case atStart => exact ⟨0, Nat.zero_le _, rfl, hst⟩
  case round =>
    obtain ⟨k, hk, rfl, HR⟩ := hrel
    clear hst
    by_cases hlt : k < c.length
    · obtain ⟨b, off, rfl, m0⟩ := (hN.out.grow HR.out.2).at_ k hlt
      have hlt2 : k < (c.map Lib.itoa).length := by rw [List.length_map]; exact hlt
      have hfs := Lib.hid (filled_succ (c.map Lib.itoa) [] k hlt2)
      have hck := hc _ (List.getElem_mem hlt)
      have hg : (c.map Lib.itoa)[k] = Lib.itoa c[k] := List.getElem_map _
      rw [hg] at hfs
      have hEr := Lib.hid (hEH.out.below HR.out.2 (Nat.le_refl _))
      have hcall := Lib.hid (fun W (h : Env W) => itoa_env c[k] (by omega) (by omega) W h)
      clear hg hck
      generalize c[k] = x at *
      go_wp2_with fail
      refine (hcall.out _ hEr.out).mono ?_
      rintro e w2 ⟨rfl, hb2⟩
      have H2 := HR.out.1.grow hb2
      have z0 : (txEnc (filled (c.map Lib.itoa) [] k k))[0]? = some (.string ByteArray.empty) := by simp only [filled, Nat.lt_irrefl, if_false]; rfl
      have y0 := H2.cell hlt z0
      have q0 := H2.frozen hlt z0
      rw [Nat.mul_one, Nat.add_zero] at y0 q0
      have HN := H2.set1 (fun _ => rfl) (k := k) (x := Lib.itoa x) (u0 := .string (ms (Lib.itoa x))) rfl
      rw [← hfs.out] at HN
      have HN2 := Lib.hid (And.intro HN (bst (btr HR.out.2 hb2) (show w.heap.size ≤ (⟨w.heap.size, k, none⟩ : Addr).block by simp) (.string (ms (Lib.itoa x)))))
      clear HR H2 HN z0 hb2 m0 hcall hEr hfs
      go_wp2_with fail
      go_roundw
      case rel => exact ⟨k + 1, by omega, by go_num, HN2⟩
      case measure => simp [intOf]; omega
    · obtain rfl : k = c.length := by omega
      have hcl : (c.map Lib.itoa).length = c.length := List.length_map _
      have hcells := wordsAt HR.out.1 hcl
      have hlm : ((c.map Lib.itoa).map ms).length = c.length := by rw [List.length_map, hcl]
      have hcall := Tryz.strings_Join w.heap.size 0 c.length ((c.map Lib.itoa).map ms) ⟨#[32]⟩ wr hcells (by
        have := HR.out.1.cell (j := 0) hpos (i := 0) (u := .string (ms (Lib.itoa c[0]))) (by
          simp only [filled, if_pos hpos, List.getD_eq_getElem?_getD, List.getElem?_map, List.getElem?_eq_getElem hpos]; rfl)
        exact World.block_lt_of_cell? _ _ this) (by omega) (by omega) (by rw [map_ms_data]; exact Nat.le_trans hjs (by omega))
      rw [hlm, map_ms_data] at hcall
      replace hcall := Lib.hid hcall
      have hB := Lib.hid HR.out.2
      clear HR hcells hlm hcl
      go_wp2_with fail
      refine hcall.out.mono ?_
      rintro e w2 ⟨rfl, hb2⟩
      have hB2 := Lib.hid (btr hB.out (hb2.mono (Nat.le_refl _)))
      clear hb2 hB hcall
      go_wp2_with fail
      go_ret
      exact ⟨rfl, hB2.out⟩

set_option maxHeartbeats 2000000 in
theorem clauseText_any (c : List Int) (A : Option Addr) (cap : Nat) (w : World) (hE : Env w) (hx : IntsAt w A c) (hc : ∀ l ∈ c, -1000000 ≤ l ∧ l ≤ 1000000) (hl : c.length ≤ 1000) :
    Calls Tryz.prog 97 #[.slice A c.length cap] w fun e w' => e = .returned (.string (ms (txtC c))) ∧ Below w.heap.size w w' := by
  by_cases h0 : c = []
  · subst h0
    have hR : Hid (ms (txtC []) = ⟨#[110, 111, 110, 101]⟩) := rfl
    go_enter Tryz.func97, Tryz.ntmps97
    go_wp2_with fail
    go_ret
    exact ⟨ret_str hR.out.symm, bb _⟩
  · have hpos : 0 < c.length := List.length_pos_iff.2 h0
    have h0' : ((c.length : Int) == 0) = false := by rw [beq_eq_false_iff_ne]; omega
    have hn0 : ¬ (c.length : Int) = 0 := by omega
    have hR : Hid (Lib.join (c.map Lib.itoa) [32] = txtC c) := (txtC_ne h0).symm
    have hcall := digits_any c A cap w hE hx h0 hc hl
    rw [hR.out] at hcall
    replace hcall := Lib.hid hcall
    clear hR hc hE hx
    generalize txtC c = t at *
    go_enter Tryz.func97, Tryz.ntmps97
    go_wp2_with fail
    refine hcall.out.mono ?_
    rintro e w1 ⟨rfl, hb1⟩
    replace hb1 := Lib.hid hb1
    go_wp2_with fail
    go_ret
    exact ⟨rfl, hb1.out⟩

/-- The text of a clause and whether it is one. -/
def ctA (vars : Int) (c : List Int) : List UInt8 := if clauseB vars c then txtC c else []
set_option maxHeartbeats 2000000 in
theorem implClauseText_any (vars : Int) (v : Value) (c : List Int) (F : List Nat) (w : World) (hE : Env w) (hx : Ty.int.row false w v c F) :
    Calls Tryz.prog 33 #[.int .i64 vars, v] w fun e w' => e = .returned (.tuple #[.string (ms (ctA vars c)), .bool (clauseB vars c)]) ∧ Below w.heap.size w w' := by
  obtain ⟨A, cap, rfl, hI⟩ := ints_row hx
  obtain ⟨q, hq⟩ : ∃ q, clauseB vars c = q := ⟨_, rfl⟩
  have hcl := Lib.hid (implIsClause_at (w := w) hx hq)
  rw [hq]
  cases q
  · have hR : Hid (ms (ctA vars c) = ⟨#[]⟩) := by unfold Hid ctA; rw [hq]; rfl
    rw [hR.out]
    go_enter Tryz.func33, Tryz.ntmps33
    go_wp2_with fail
    refine hcl.out.mono ?_
    rintro e w1 ⟨rfl, hb1⟩
    replace hb1 := Lib.hid hb1
    go_wp2_with fail
    go_ret2
    exact ⟨rfl, hb1.out⟩
  · have hR : Hid (ctA vars c = txtC c) := by unfold Hid ctA; rw [hq]; rfl
    rw [hR.out]
    have hs := clause_small hq
    have hl := clause_len hq
    have ht := Lib.hid (fun W (h : Below w.heap.size w W) => clauseText_any c A cap W (hE.grow h) (hI.grow h) (fun l h => by have := hs l h; omega) (by omega))
    clear hs hE hI
    generalize txtC c = t at *
    go_enter Tryz.func33, Tryz.ntmps33
    go_wp2_with fail
    refine hcl.out.mono ?_
    rintro e w1 ⟨rfl, hb1⟩
    have ht2 := Lib.hid (ht.out _ hb1)
    replace hb1 := Lib.hid hb1
    clear ht hcl
    go_wp2_with fail
    refine ht2.out.mono ?_
    rintro e w2 ⟨rfl, hb2⟩
    have hB := Lib.hid (btr hb1.out hb2)
    clear hb2
    go_wp2_with fail
    go_ret2
    exact ⟨rfl, hB.out⟩
end Go.Proofs.YtahbepajeplcmaaGreatDoor

/- Contracts: words read as numbers, and the clause of a text, in the program. -/
namespace Go.Proofs.YtahbepajeplcmaaGreatDoor
open Go.RowKit

/-- Words in memory. -/
def WordsAt (w : World) (B : Nat) (xs : List ByteArray) : Prop := ∀ j (hj : j < xs.length), w.cell? ⟨B, j, none⟩ = some (.string xs[j])
theorem WordsAt.grow {w w' : World} {B : Nat} {xs : List ByteArray} (h : WordsAt w B xs) (hb : Below w.heap.size w w') : WordsAt w' B xs := fun j hj => (hb.cell (World.block_lt_of_cell? _ _ (h j hj))).trans (h j hj)
/-- strings.Split at one byte. -/
theorem split_any (s : ByteArray) (c : UInt8) (w : World) (hE : Env w) (hs : s.size ≤ 1000000) :
    Calls Tryz.prog 65 #[.string s, .string ⟨#[c]⟩] w fun e w' => ∃ (g : Nat) (xs : List ByteArray), e = .returned (.slice (some ⟨g, 0, none⟩) xs.length xs.length) ∧ xs.map bl = splitP c.toNat (bl s) ∧ WordsAt w' g xs ∧ Below w.heap.size w w' ∧ g = w.heap.size := by
  obtain ⟨m, hm⟩ := hE.maxlen
  obtain ⟨xs, hxs⟩ : ∃ xs, Lib.splitB ⟨#[c]⟩ 0 (Lib.countB s ⟨#[c]⟩) s = xs := ⟨_, rfl⟩
  have hlen : xs.length = Lib.countB s ⟨#[c]⟩ + 1 := by rw [← hxs]; exact Lib.splitB_all ⟨#[c]⟩ (Nat.le_refl 1) 0 _ _ rfl
  have hmap : xs.map bl = splitP c.toNat (bl s) := by
    rw [← hxs]
    have h := Lib.splitB_data ⟨#[c]⟩ 0 (Lib.countB s ⟨#[c]⟩) s
    have h1 := splitK_one c (bl s).length (bl s) (Nat.le_refl _)
    exact h.trans h1
  have hC := (Tryz.strings_Split s ⟨#[c]⟩ m w (by omega) hm (Nat.le_refl 1))
  rw [hxs, ← hlen] at hC
  refine hC.mono ?_
  rintro e w1 ⟨rfl, rfl⟩
  refine ⟨w.heap.size, xs, rfl, hmap, fun j hj => ?_, bal (bb _) _, rfl⟩
  have := heap_alloc_new w (.cells (xs.map Value.string).toArray 9)
  rw [cell_of_row _ _ _ _ _ _ this]
  simp [hj]

theorem infoIntL : (Tryz.prog.info? 3).map (fun i => (i.zero, i.size, i.bytes)) = some (some (.int .i64 0), 1, 8) := by kernel_rfl
def PIPost (ps : List (List UInt8)) (w : World) (e : Ending) (w' : World) : Prop :=
  (numsOk ps = true ∧ ∃ B c, e = .returned (.tuple #[.slice B ps.length c, .bool true]) ∧ Sp w w' [Own 3 1 (.slice B ps.length c) ps.length ((numsV ps).map (.int .i64))]) ∨
    (numsOk ps = false ∧ e = .returned (.tuple #[.slice none 0 0, .bool false]) ∧ Below w.heap.size w w')
theorem nums_not {ps : List (List UInt8)} {k : Nat} (hk : k < ps.length) (h : (numB ps[k]).2 = false) : numsOk ps = false := by
  unfold numsOk
  rw [List.all_eq_false]
  exact ⟨_, List.getElem_mem hk, by rw [h]; simp⟩
theorem numsV_len (ps : List (List UInt8)) : (numsV ps).length = ps.length := by unfold numsV; rw [List.length_map]

set_option maxRecDepth 100000 in
set_option maxHeartbeats 4000000 in
theorem parseInts_any (xs : List ByteArray) (g : Nat) (o cap : Nat) (w : World) (hE : NumEnv w) (hx : ∀ j (hj : j < xs.length), w.cell? ⟨g, o + j, none⟩ = some (.string xs[j])) (hs : ∀ x ∈ xs, x.size ≤ 1000000) (hl : xs.length ≤ 1000000) :
    Calls Tryz.prog 67 #[.slice (some ⟨g, o, none⟩) xs.length cap] w (PIPost (xs.map bl) w) := by
  obtain ⟨i0, hi, hz0, hz1, hz2⟩ := info_parts infoIntL
  replace hE := Lib.hid hE
  replace hx := Lib.hid hx
  have hpl : (xs.map bl).length = xs.length := List.length_map _
  obtain ⟨ps, hps⟩ : ∃ ps, xs.map bl = ps := ⟨_, rfl⟩
  rw [hps] at hpl ⊢
  go_enter Tryz.func67, Tryz.ntmps67
  go_wp2_with (at_make; refine wpList_make_own _ rfl _ _ 43 rfl w.heap.size 3 i0 (.int .i64 0) 1 Tryz.underlying43 hi hz0 hz1 .i64 .i64 _ xs.length rfl rfl rfl ?m1 ?m2 ?m3 ?_)
  case m1 => rw [hz2]; omega
  case m2 => unfold maxLen; omega
  case m3 => exact Nat.le_refl _
  intro w1 hown hgrow
  have S1 : Hid (Sp w w1 [Own 3 1 (.slice (some ⟨w.heap.size, 0, none⟩) 0 xs.length) 0 []]) := (Sp.start w).own_call ((bb w).grown hgrow (Nat.le_refl _) (fun k hk => by cases hk)) hown
  clear hown hgrow
  go_wp2_with fail
  go_loopw [4, 14] (fun vo vi wr => ∃ (k : Nat) (B : Option Addr) (c : Nat) (zs : List Int), k ≤ xs.length ∧ zs.length = k ∧ vi = .int .i64 k ∧ vo = .slice B zs.length c ∧ Hid (numsOk (ps.take k) = true ∧ zs = numsV (ps.take k)) ∧ Hid (Sp w wr [Own 3 1 (.slice B zs.length c) zs.length (zs.map (.int .i64))])) (fun _ vi _ => xs.length - (intOf vi).toNat)
  case atStart => exact ⟨0, _, _, [], Nat.zero_le _, rfl, rfl, rfl, ⟨rfl, rfl⟩, S1⟩
  case round =>
    obtain ⟨k, B, c, zs, hk, hzl, rfl, rfl, HD, HS⟩ := hrel
    clear S1
    by_cases hlt : k < xs.length
    · have hkp : k < ps.length := by omega
      have m0 := (HS.out.below.cell (World.block_lt_of_cell? _ _ (hx.out k hlt))).trans (hx.out k hlt)
      have hsz := hs _ (List.getElem_mem hlt)
      have hpk : bl xs[k] = ps[k] := by simp only [← hps, List.getElem_map]
      have hcall := implParse_any xs[k] wr (hE.out.grow HS.out.below) hsz
      rw [hpk] at hcall
      have hst := nums_step hkp HD.out.1
      have hno := nums_not hkp
      generalize xs[k] = x at *
      generalize hzz : numB ps[k] = zz at *
      obtain ⟨z, q⟩ := zz
      dsimp only at hcall hst hno
      replace hcall := Lib.hid hcall
      replace hzl := Lib.hid hzl
      clear hpk hsz
      cases q
      · have hR := Lib.hid (hno rfl)
        clear hno hst
        go_wp2_with fail
        refine hcall.out.mono ?_
        rintro e w2 ⟨rfl, hb2⟩
        have hB := Lib.hid (HS.out.grow hb2).below
        clear hb2 HS hcall m0
        go_wp2_with fail
        go_ret2
        exact .inr ⟨hR.out, rfl, hB.out⟩
      · have hst2 := Lib.hid (hst rfl)
        clear hno hst
        go_wp2_with fail
        refine hcall.out.mono ?_
        rintro e w2 ⟨rfl, hb2⟩
        have S2 := (HS.out.grow hb2).alloc_box #[.int .i64 z] 3
        have kB := S2.cell (i := 0) rfl (o := 0) rfl
        replace S2 := Lib.hid S2
        clear hb2 HS hcall m0
        have hz6 : zs.length ≤ 1000000 := by have := hzl.out; omega
        go_wp2_with (at_builtin; refine wpList_append_src rfl _ _ rfl Tryz.underlying43 hi hz0 hz1 hz2 rfl (by decide) _ _ _ rfl (S2.out.own (i := 1) rfl) _ 1 1 [.int .i64 z] rfl (Src.one kB) (by simp [Value.oneCell']) ?c3 ?c4 ?_)
        case c3 => unfold maxLen; omega
        case c4 => omega
        intro vY wY hownY hgY hatY
        have S3 := (S2.out.own_push (i := 1) rfl (bb _) hownY hgY (by simpa using hatY)).tail
        obtain ⟨aY, cY, rfl⟩ := own_slice hownY
        have S4 : Hid (Sp w wY [Own 3 1 (.slice aY (zs ++ [z]).length cY) (zs ++ [z]).length ((zs ++ [z]).map (.int .i64))]) := by
          have e1 : (zs ++ [z]).length = zs.length + 1 := by simp
          unfold Hid
          rw [e1, List.map_append]
          exact S3
        have hlen : zs.length + 1 = (zs ++ [z]).length := by simp
        have HD2 : Hid (numsOk (ps.take (k + 1)) = true ∧ zs ++ [z] = numsV (ps.take (k + 1))) := ⟨hst2.out.1, by rw [hst2.out.2, HD.out.2]⟩
        have hzl2 : (zs ++ [z]).length = k + 1 := by rw [← hlen, hzl.out]
        clear S2 S3 kB hownY hgY hatY HD hst2
        rw [hlen]
        generalize zs ++ [z] = zs2 at *
        clear hlen hz6
        replace hzl2 := Lib.hid hzl2
        go_wp2_with fail
        go_roundw
        case rel => exact ⟨k + 1, aY, cY, zs2, by omega, hzl2.out, by go_num, rfl, HD2, S4⟩
        case measure => simp [intOf]; omega
    · obtain rfl : k = xs.length := by omega
      have htk : ps.take xs.length = ps := List.take_of_length_le (by omega)
      have hR := HD.out
      rw [htk] at hR
      have hf : Hid (∀ e, e = Ending.returned (.tuple #[.slice B zs.length c, .bool true]) → PIPost ps w e wr) := fun e he => by
        refine .inl ⟨hR.1, B, c, ?_, ?_⟩
        · rw [he, hzl, hpl]
        · have := HS.out
          rw [hzl, hR.2, ← hpl] at this
          exact this
      replace hzl := Lib.hid hzl
      clear HD HS hR
      go_wp2_with fail
      go_ret2
      exact hf.out _ rfl

/-- A clause of its own and whether it is one. -/
def PCPost (r : List Int × Bool) (w : World) (e : Ending) (w' : World) : Prop :=
  ∃ B c, e = .returned (.tuple #[.slice B r.1.length c, .bool r.2]) ∧ Sp w w' [Own 3 1 (.slice B r.1.length c) r.1.length (r.1.map (.int .i64))]
theorem pc_nil {r : List Int × Bool} {q : Bool} {w w' : World} (h : r = ([], q)) (hb : Below w.heap.size w w') : PCPost r w (.returned (.tuple #[.slice none 0 0, .bool q])) w' := by
  subst h
  exact ⟨none, 0, rfl, (Sp.of_below hb).own_nil _ _⟩
theorem nums_i64 {ps : List (List UInt8)} (h : numsOk ps = true) : ∀ z ∈ numsV ps, I64 z := by
  intro z hz
  obtain ⟨p, hp, rfl⟩ := List.mem_map.1 hz
  have := numB_back (p := p) (List.all_eq_true.1 h p hp)
  unfold I64; omega

set_option maxRecDepth 100000 in
set_option maxHeartbeats 4000000 in
theorem implParseClause_any (vars : Int) (s : ByteArray) (w : World) (hE : NumEnv w) (hs : s.size ≤ 900000) :
    Calls Tryz.prog 31 #[.int .i64 vars, .string s] w (PCPost (parC vars (bl s)) w) := by
  by_cases h0 : bl s = noneT
  · have hR : Hid (parC vars (bl s) = ([], inB vars 0 12)) := parC_none h0
    have hc : ((bl s) == [110, 111, 110, 101]) = true := by rw [h0]; rfl
    have hs0 : s = ⟨#[110, 111, 110, 101]⟩ := by rw [← ms_bl s, h0]; rfl
    subst hs0
    go_enter Tryz.func31, Tryz.ntmps31
    go_wp2_with (go_at_call 85; refine (varsOk_any _ _).mono ?_; rintro e w1 ⟨rfl, rfl⟩)
    go_ret2
    exact pc_nil hR.out (bb _)
  · have hne : ((bl s) == [110, 111, 110, 101]) = false := beq_eq_false_iff_ne.2 h0
    have hsp := split_any s 32 w hE.env (by omega)
    have hpar := Lib.hid (fun ps (hp : splitP 32 (bl s) = ps) (ho : numsOk ps = true) => par_clause (vars := vars) h0 hp ho)
    have hpar2 : Hid (∀ ps, splitP 32 (bl s) = ps → numsOk ps = false → parC vars (bl s) = ([], false)) := fun ps hp ho => by rw [parC_some h0, hp, ho]; rfl
    have hsl := splitP_len 32 (bl s)
    rw [bl_length] at hsl
    replace hsp := Lib.hid hsp
    replace hE := Lib.hid hE
    obtain ⟨R, hRR⟩ : ∃ R, parC vars (bl s) = R := ⟨_, rfl⟩
    rw [hRR] at hpar hpar2 ⊢
    have hpsz : Hid (∀ x : ByteArray, bl x ∈ splitP 32 (bl s) → x.size ≤ 1000000) := fun x hxm => by
      have := split_part_len 32 (bl s) _ hxm
      rw [bl_length, bl_length] at this
      omega
    clear hRR
    go_enter Tryz.func31, Tryz.ntmps31
    go_wp2_with fail
    refine hsp.out.mono ?_
    rintro e w1 ⟨g, xs, rfl, hmap, hW, hb1, -⟩
    have hmap2 : xs.map bl = splitP 32 (bl s) := hmap
    have hxl : xs.length ≤ 1000000 := by
      have := congrArg List.length hmap2
      rw [List.length_map] at this
      omega
    have hpi := Lib.hid (parseInts_any xs g 0 xs.length w1 (hE.out.grow hb1) (fun j hj => by rw [Nat.zero_add]; exact hW j hj) (fun x hx => hpsz.out x (by rw [← hmap2]; exact List.mem_map.2 ⟨x, hx, rfl⟩)) hxl)
    rw [hmap2] at hpi
    replace hb1 := Lib.hid hb1
    clear hsp hW hmap hmap2 hpsz hsl
    generalize hps : splitP 32 (bl s) = ps at *
    go_wp2_with fail
    refine hpi.out.mono ?_
    rintro e w2 (⟨ho, B, c, rfl, S2⟩ | ⟨ho, rfl, hb2⟩)
    · have hP := Lib.hid (hpar.out ps rfl ho)
      have S3 := (Sp.of_below hb1.out).seq S2
      have hvl := numsV_len ps
      rw [← hvl] at S3
      obtain ⟨F, hr, -, -⟩ := own_row (S3.own (i := 0) rfl) (nums_i64 ho)
      obtain ⟨q, hq⟩ : ∃ q, clauseB vars (numsV ps) = q := ⟨_, rfl⟩
      have hcl := implIsClause_at (Ty.row_down hr) hq
      rw [hq] at hP
      replace hcl := Lib.hid hcl
      replace S3 := Lib.hid S3
      rw [← hvl]
      clear hpar hpar2 hpi S2 hr ho hb1 hvl hps
      generalize numsV ps = zs at *
      cases q
      · go_wp2_with fail
        refine hcl.out.mono ?_
        rintro e w3 ⟨rfl, hb3⟩
        have hB := Lib.hid (S3.out.grow hb3).below
        clear hb3 S3 hcl
        go_wp2_with fail
        go_ret2
        exact pc_nil (hP.out.trans (if_neg (by decide))) hB.out
      · go_wp2_with fail
        refine hcl.out.mono ?_
        rintro e w3 ⟨rfl, hb3⟩
        have S4 := Lib.hid (S3.out.grow hb3)
        clear hb3 S3 hcl
        go_wp2_with fail
        go_ret2
        have e1 : R = (zs, true) := hP.out.trans (if_pos trivial)
        subst e1
        exact ⟨_, _, rfl, S4.out⟩
    · have hP := Lib.hid (hpar2.out ps rfl ho)
      have hB := Lib.hid (btr hb1.out hb2)
      clear hpar hpar2 hpi hb1 hb2
      go_wp2_with fail
      go_ret2
      exact pc_nil hP.out hB.out
end Go.Proofs.YtahbepajeplcmaaGreatDoor

/- Contract: splitting in the reference. Printed by gen_txt.py. -/
namespace Go.Proofs.YtahbepajeplcmaaGreatDoor
open Go.RowKit

theorem infoStr : (Tryz.prog.info? 9).map (fun i => (i.zero, i.size, i.bytes)) = some (some (.string ByteArray.empty), 1, 16) := by kernel_rfl

/-- The result of 'l1Split': a row of its own with the pieces. -/
def SplitPost (w : World) (l : List UInt8) (b : Int) (e : Ending) (w' : World) : Prop :=
  ∃ (g cap : Nat) (ps : List ByteArray), e = .returned (.slice (some ⟨g, 0, none⟩) ps.length cap) ∧ 0 < ps.length ∧ ps.length ≤ l.length + 1 ∧ ps.length ≤ cap ∧ w.heap.size ≤ g ∧ g < w'.heap.size ∧
    (∀ j (h : j < ps.length), w'.cell? ⟨g, j, none⟩ = some (.string ps[j])) ∧ ps.map bl = splitP b l ∧ Below w.heap.size w w'

theorem extract_piece (s : ByteArray) (from_ k : Nat) : bl (s.extract from_ k) = ((bl s).drop from_).take (k - from_) := bl_extract s from_ k

/-- What has been split off so far. -/
def SplitRel (s : ByteArray) (b : Int) (w wr : World) (v : Value) (fr k : Nat) (ps : List ByteArray) : Prop :=
  fr ≤ k ∧ k ≤ s.size ∧ ps.length ≤ fr ∧ wr.ownsRow w.heap.size 9 1 v ps.length (ps.map Value.string) ∧ splitP b (bl s) = ps.map bl ++ splitP b ((bl s).drop fr) ∧ hasB (((bl s).drop fr).take (k - fr)) b = false ∧ Below w.heap.size w wr
theorem SplitRel.start (s : ByteArray) (b : Int) (w : World) (o : Obj) (v : Value) (h : (w.alloc o).ownsRow w.heap.size 9 1 v 0 []) : SplitRel s b w (w.alloc o) v 0 0 [] :=
  ⟨Nat.le_refl _, Nat.zero_le _, Nat.le_refl _, h, rfl, by simp [hasB], bal (bb _) _⟩
theorem take_more (s : ByteArray) (fr k : Nat) (hf : fr ≤ k) (h : k < s.size) : ((bl s).drop fr).take (k + 1 - fr) = ((bl s).drop fr).take (k - fr) ++ [s[k]] := by
  have e : k + 1 - fr = (k - fr) + 1 := by omega
  rw [e, List.take_succ_eq_append_getElem (by rw [List.length_drop, bl_length]; omega)]
  congr 2
  rw [List.getElem_drop]
  have e2 : fr + (k - fr) = k := by omega
  simp only [e2]
  exact bl_get s k h
theorem SplitRel.miss {s : ByteArray} {b : Int} {w wr : World} {v : Value} {fr k : Nat} {ps : List ByteArray} (h : SplitRel s b w wr v fr k ps) (hk : k < s.size) (hb : ((s[k].toNat : Int) == b) = false) : SplitRel s b w wr v fr (k + 1) ps := by
  obtain ⟨h1, h2, h3, h4, h5, h6, h7⟩ := h
  exact ⟨by omega, by omega, h3, h4, h5, by rw [take_more s fr k h1 hk, hasB_snoc, h6, hb]; rfl, h7⟩
theorem SplitRel.hit {s : ByteArray} {b : Int} {w wr w1 : World} {v v' : Value} {fr k : Nat} {ps : List ByteArray} (h : SplitRel s b w wr v fr k ps) (hk : k < s.size) (hb : ((s[k].toNat : Int) == b) = true)
    (hown : w1.ownsRow w.heap.size 9 1 v' (ps.length + 1) (ps.map Value.string ++ [.string (s.extract fr k)])) (hB : Below w.heap.size w w1) : SplitRel s b w w1 v' (k + 1) (k + 1) (ps ++ [s.extract fr k]) := by
  obtain ⟨h1, h2, h3, h4, h5, h6, h7⟩ := h
  refine ⟨Nat.le_refl _, by omega, by simp; omega, by simpa using hown, ?_, by simp [hasB], hB⟩
  have e : (bl s).drop fr = ((bl s).drop fr).take (k - fr) ++ s[k] :: (bl s).drop (k + 1) := by
    have e1 := List.take_append_drop (k - fr) ((bl s).drop fr)
    rw [List.drop_drop, show fr + (k - fr) = k by omega] at e1
    rw [List.drop_eq_getElem_cons (i := k) (by rw [bl_length]; exact hk), bl_get s k hk] at e1
    exact e1.symm
  rw [h5, e, splitP_some h6 hb, List.map_append, List.append_assoc]
  congr 1
  show _ = [bl (s.extract fr k)] ++ _
  rw [extract_piece]; rfl
theorem SplitRel.done {s : ByteArray} {b : Int} {w wr w1 : World} {v v' : Value} {fr : Nat} {ps : List ByteArray} (h : SplitRel s b w wr v fr s.size ps)
    (hown : w1.ownsRow w.heap.size 9 1 v' (ps.length + 1) (ps.map Value.string ++ [.string (s.extract fr s.size)])) (hB : Below w.heap.size w w1) : SplitPost w (bl s) b (.returned v') w1 := by
  obtain ⟨h1, h2, h3, h4, h5, h6, h7⟩ := h
  have e : ((bl s).drop fr).take (s.size - fr) = (bl s).drop fr := List.take_of_length_le (by rw [List.length_drop, bl_length]; exact Nat.le_refl _)
  rw [e] at h6
  rw [splitP_none h6] at h5
  have hown2 : w1.ownsRow w.heap.size 9 1 v' (ps ++ [s.extract fr s.size]).length ((ps ++ [s.extract fr s.size]).map Value.string) := by simpa using hown
  obtain ⟨g, cap, rfl⟩ := Joins.ownsRow_form hown2 (by simp)
  have hlt := hown2.lt g rfl
  refine ⟨g, cap, ps ++ [s.extract fr s.size], rfl, by simp, by simp [bl_length]; omega, ?_, hlt.1, hlt.2, fun j hj => ?_, ?_, hB⟩
  · obtain ⟨_, ⟨e1, _⟩ | ⟨_, _, _, e1, _, _, hc, _⟩⟩ := hown2
    · cases e1
    · simp only [Value.slice.injEq] at e1; rw [e1.2.2]; exact hc
  · rw [hown2.cellAt j (by simpa using hj), List.getElem?_map, List.getElem?_eq_getElem hj]; rfl
  · rw [h5, List.map_append]; congr 1
    show [bl (s.extract fr s.size)] = _
    rw [extract_piece, e]

set_option maxHeartbeats 2000000 in
theorem l1Split_any (s : ByteArray) (b : Int) (w : World) (hs : s.size ≤ 1000000000000) :
    Calls Tryz.prog 107 #[.string s, .int .u8 b] w (SplitPost w (bl s) b) := by
  obtain ⟨i0, hi, hz0, hz1, hz2⟩ := info_parts infoStr
  go_enter Tryz.func107, Tryz.ntmps107
  go_wp2_with fail
  go_loopw [5, 6, 7] (fun v f i wr => ∃ (fr k : Nat) (ps : List ByteArray), f = .int .i64 fr ∧ i = .int .i64 k ∧ SplitRel s b w wr v fr k ps) (fun _ _ i _ => s.size - (intOf i).toNat)
  case atStart => exact ⟨0, 0, [], rfl, rfl, SplitRel.start s b w _ _ (World.ownsRow_made w #[] 0 (Nat.le_refl _) (by decide) rfl)⟩
  case round =>
    obtain ⟨fr, k, ps, rfl, rfl, HR⟩ := hrel
    obtain ⟨h1, h2, h3, hown, _, _, hB⟩ := id HR
    have hsz := hB.size
    replace HR := (show Hid (SplitRel s b w wr u5 fr k ps) from HR)
    by_cases hlt : k < s.size
    · by_cases hb : ((s[k].toNat : Int) == b) = true
      · go_wp2_with (at_builtin; refine wpList_append_own _ rfl _ _ 37 rfl w.heap.size 9 i0 (.string ByteArray.empty) 1 16 Tryz.underlying37 hi hz0 hz1 hz2 rfl (by decide) _ _ _ rfl (hown.alloc _) ⟨wr.heap.size, 0, none⟩ 1 1 [.string (s.extract fr k)] rfl rfl ?c1 ?c2 ?c3 ?c4 ?c5 ?_)
        case c1 =>
          intro j u hj
          match j, hj with
          | 0, hj => simp at hj; subst hj; simp [Addr.add]
        case c2 => intro u hu; simp at hu; subst hu; rfl
        case c3 => unfold maxLen; omega
        case c4 => omega
        case c5 => simp; omega
        intro v' w1 hown' hgrow _
        have hB1 : Below w.heap.size w w1 := (hB.alloc hsz _).grown hgrow (by simp; omega) (fun q hq => (hown.lt q hq).1)
        have HN := HR.out.hit hlt hb hown' hB1
        clear hown' hgrow hown hB
        replace HN := (show Hid (SplitRel s b w w1 v' (k + 1) (k + 1) (ps ++ [s.extract fr k])) from HN)
        go_wp2
        go_roundw
        case rel => exact ⟨k + 1, k + 1, _, by go_num, by go_num, HN.out⟩
        case measure => simp [intOf]; omega
      · have hb' : ((s[k].toNat : Int) == b) = false := by simpa using hb
        have HN := HR.out.miss hlt hb'
        replace HN := (show Hid (SplitRel s b w wr u5 fr (k + 1) ps) from HN)
        clear hb
        go_wp2_with fail
        go_roundw
        case rel => exact ⟨fr, k + 1, _, by go_num, by go_num, HN.out⟩
        case measure => simp [intOf]; omega
    · obtain rfl : k = s.size := by omega
      go_wp2_with (at_builtin; refine wpList_append_own _ rfl _ _ 37 rfl w.heap.size 9 i0 (.string ByteArray.empty) 1 16 Tryz.underlying37 hi hz0 hz1 hz2 rfl (by decide) _ _ _ rfl (hown.alloc _) ⟨wr.heap.size, 0, none⟩ 1 1 [.string (s.extract fr s.size)] rfl rfl ?d1 ?d2 ?d3 ?d4 ?d5 ?_)
      case d1 =>
        intro j u hj
        match j, hj with
        | 0, hj => simp at hj; subst hj; simp [Addr.add]
      case d2 => intro u hu; simp at hu; subst hu; rfl
      case d3 => unfold maxLen; omega
      case d4 => omega
      case d5 => simp; omega
      intro v' w1 hown' hgrow _
      have hB1 : Below w.heap.size w w1 := (hB.alloc hsz _).grown hgrow (by simp; omega) (fun q hq => (hown.lt q hq).1)
      have HN := HR.out.done hown' hB1
      clear hown' hgrow hown hB
      replace HN := (show Hid (SplitPost w (bl s) b (.returned v') w1) from HN)
      go_wp2_with fail
      go_ret
      exact HN.out
end Go.Proofs.YtahbepajeplcmaaGreatDoor

/- Contracts: the text of a clause, and the clause of a text, in the reference. Printed by gen_ltd.py. -/
namespace Go.Proofs.YtahbepajeplcmaaGreatDoor
open Go.RowKit

set_option maxRecDepth 100000 in
set_option maxHeartbeats 4000000 in
theorem l2Text_any (c : List Int) (hc : Within 1000000 c) (hl : c.length ≤ 100) (A : Option Addr) (cap : Nat) (w : World) (hx : IntsAt w A c) :
    Calls Tryz.prog 90 #[.slice A c.length cap] w fun e w' => e = .returned (.string (ms (txtC c))) ∧ Below w.heap.size w w' := by
  have hN := Lib.hid hx
  clear hx
  by_cases h0 : c.length = 0
  · have h0' : (c.length : Int) = 0 := by omega
    have hce : c = [] := List.length_eq_zero_iff.1 h0
    have hR : Hid (ms (txtC c) = ⟨#[110, 111, 110, 101]⟩) := by rw [hce]; rfl
    replace h0 := Lib.hid h0
    go_enter Tryz.func90, Tryz.ntmps90
    go_wp2_with fail
    go_ret
    exact ⟨ret_str hR.out.symm, bb _⟩
  · have h1 : 0 < c.length := by omega
    have h0' : ((c.length : Int) == 0) = false := by rw [beq_eq_false_iff_ne]; omega
    obtain ⟨b, off, rfl, m0⟩ := hN.out.at_ 0 h1
    have hb0 := hc _ (List.getElem_mem h1)
    rw [Nat.add_zero] at m0
    have hj1 : Hid (ms (Lib.itoa c[0]) = ms (Lib.join ((c.take 1).map Lib.itoa) [32])) := by
      unfold Hid
      obtain ⟨l, r, rfl⟩ := List.exists_cons_of_ne_nil (List.length_pos_iff.1 h1)
      simp [Lib.join_one]
    have hce : c ≠ [] := List.length_pos_iff.1 h1
    generalize c[0] = x0 at *
    clear h0
    go_enter Tryz.func90, Tryz.ntmps90
    go_wp2_with fail
    refine (l1Num_any x0 _ (by omega) (by omega)).mono ?_
    rintro e w1 ⟨rfl, hb1⟩
    have hsz : (ms (Lib.itoa x0)).size ≤ 14 := by rw [ms_size]; exact itoa_short hb0.1 hb0.2
    generalize ms (Lib.itoa x0) = t0 at *
    have HB0 := Lib.hid hb1
    clear hb1 m0 hb0
    go_wp2_with fail
    go_loopw [3, 4] (fun vs vi wr => ∃ (k : Nat) (t : ByteArray), k ≤ c.length ∧ 1 ≤ k ∧ vi = .int .i64 k ∧ vs = .string t ∧ t.size ≤ 20 * k ∧ Hid (t = ms (Lib.join ((c.take k).map Lib.itoa) [32])) ∧ Hid (Below w.heap.size w wr)) (fun _ vi _ => c.length - (intOf vi).toNat)
    case atStart => exact ⟨1, t0, h1, Nat.le_refl _, rfl, rfl, by omega, hj1, HB0⟩
    case round =>
      obtain ⟨k, t, hk, hk1, rfl, rfl, hts, HT, HB⟩ := hrel
      clear HB0
      by_cases hlt : k < c.length
      · obtain ⟨b', off', e', m0⟩ := (hN.out.grow HB.out).at_ k hlt
        cases e'
        have hb0 := hc _ (List.getElem_mem hlt)
        have hjn : Hid (∀ t2 : ByteArray, t2 = ms (bl (ms (bl t ++ bl ⟨#[32]⟩)) ++ bl (ms (Lib.itoa c[k]))) → t2 = ms (Lib.join ((c.take (k + 1)).map Lib.itoa) [32])) := fun t2 e => by
          rw [e, HT.out, List.take_succ_eq_append_getElem hlt, List.map_append, List.map_singleton, join_snoc (by simp; exact ⟨by omega, hce⟩)]
          simp [bl_ms, bl_lit]
        generalize c[k] = x at *
        obtain ⟨t1, ht1⟩ : ∃ t1, ms (bl t ++ bl ⟨#[32]⟩) = t1 := ⟨_, rfl⟩
        have hs1 : t1.size ≤ 20 * k + 1 := by
          rw [← ht1, ms_size, List.length_append, bl_length, bl_length]
          have : (⟨#[32]⟩ : ByteArray).size = 1 := rfl
          omega
        have a1 := fun w' => run_add (P := Tryz.prog) w' t ⟨#[32]⟩ (by have : (⟨#[32]⟩ : ByteArray).size = 1 := rfl; omega)
        rw [ht1] at a1 hjn
        clear ht1
        go_wp2_with fail
        refine (l1Num_any x _ (by omega) (by omega)).mono ?_
        rintro e w2 ⟨rfl, hb2⟩
        have hsz2 : (ms (Lib.itoa x)).size ≤ 14 := by rw [ms_size]; exact itoa_short hb0.1 hb0.2
        generalize ms (Lib.itoa x) = u at *
        obtain ⟨t2, ht2⟩ : ∃ t2, ms (bl t1 ++ bl u) = t2 := ⟨_, rfl⟩
        have hs2 : t2.size ≤ 20 * (k + 1) := by
          rw [← ht2, ms_size, List.length_append, bl_length, bl_length]
          omega
        have a2 := fun w' => run_add (P := Tryz.prog) w' t1 u (by omega)
        rw [ht2] at a2
        have HT2 := Lib.hid (hjn.out t2 ht2.symm)
        have HB2 := Lib.hid (btr HB.out hb2)
        clear ht2 HB hb2 hb0 m0 a1 hjn HT
        go_wp2_with fail
        go_roundw
        case rel => exact ⟨k + 1, t2, by omega, by omega, by go_num, rfl, hs2, HT2, HB2⟩
        case measure => simp [intOf]; omega
      · obtain rfl : k = c.length := by omega
        go_wp2_with fail
        go_ret
        exact ⟨ret_str (by rw [HT.out, List.take_length, txtC_ne hce]), HB.out⟩

set_option maxHeartbeats 2000000 in
theorem specClauseText_any (vars : Int) (v : Value) (c : List Int) (F : List Nat) (w : World) (hx : Ty.int.row false w v c F) :
    Calls Tryz.prog 35 #[.int .i64 vars, v] w fun e w' => e = .returned (.tuple #[.string (ms (ctA vars c)), .bool (clauseB vars c)]) ∧ Below w.heap.size w w' := by
  obtain ⟨A, cap, rfl, hI⟩ := ints_row hx
  obtain ⟨q, hq⟩ : ∃ q, clauseB vars c = q := ⟨_, rfl⟩
  have hcl := Lib.hid (l2Clause_at (w := w) hx hq)
  rw [hq]
  cases q
  · have hR : Hid (ms (ctA vars c) = ⟨#[]⟩) := by unfold Hid ctA; rw [hq]; rfl
    rw [hR.out]
    go_enter Tryz.func35, Tryz.ntmps35
    go_wp2_with fail
    refine hcl.out.mono ?_
    rintro e w1 ⟨rfl, hb1⟩
    replace hb1 := Lib.hid hb1
    go_wp2_with fail
    go_ret2
    exact ⟨rfl, hb1.out⟩
  · have hR : Hid (ctA vars c = txtC c) := by unfold Hid ctA; rw [hq]; rfl
    rw [hR.out]
    have hs := clause_small hq
    have hl := clause_len hq
    have ht := Lib.hid (fun W (h : Below w.heap.size w W) => l2Text_any c (fun l hl => by have := hs l hl; omega) (by omega) A cap W (hI.grow h))
    clear hs hI
    generalize txtC c = t at *
    go_enter Tryz.func35, Tryz.ntmps35
    go_wp2_with fail
    refine hcl.out.mono ?_
    rintro e w1 ⟨rfl, hb1⟩
    have ht2 := Lib.hid (ht.out _ hb1)
    replace hb1 := Lib.hid hb1
    clear ht hcl
    go_wp2_with fail
    refine ht2.out.mono ?_
    rintro e w2 ⟨rfl, hb2⟩
    have hB := Lib.hid (btr hb1.out hb2)
    clear hb2
    go_wp2_with fail
    go_ret2
    exact ⟨rfl, hB.out⟩
end Go.Proofs.YtahbepajeplcmaaGreatDoor

/- A part of the memory brought to the front. No program in sight. -/
namespace Go.Proofs.YtahbepajeplcmaaGreatDoor
open Go.RowKit

theorem sep_bring {w : World} : ∀ {ps : List Asn} {F : List Nat} {i : Nat} {q : Asn}, sep ps w F → ps[i]? = some q → ∃ F', sep (q :: ps.eraseIdx i) w F' ∧ ∀ b ∈ F', b ∈ F
  | [], _, _, _, _, h => by simp at h
  | p :: ps, F, 0, q, h, hi => by
    simp at hi; subst hi
    exact ⟨F, h, fun _ h => h⟩
  | p :: ps, _, i + 1, q, h, hi => by
    obtain ⟨F1, F2, rfl, hd, h1, h2⟩ := h
    obtain ⟨F', ⟨F3, F4, rfl, hd', h3, h4⟩, hs⟩ := sep_bring (i := i) h2 (by simpa using hi)
    refine ⟨F3 ++ (F1 ++ F4), ⟨F3, F1 ++ F4, rfl, fun b hb hb2 => ?_, h3, F1, F4, rfl, fun b hb hb2 => hd b hb (hs b (List.mem_append.2 (.inr hb2))), h1, h4⟩, fun b hb => ?_⟩
    · rcases List.mem_append.1 hb2 with h | h
      · exact hd b h (hs b (List.mem_append.2 (.inl hb)))
      · exact hd' b hb h
    · simp only [List.mem_append] at hb ⊢
      rcases hb with h | h | h
      · exact .inr (hs b (List.mem_append.2 (.inl h)))
      · exact .inl h
      · exact .inr (hs b (List.mem_append.2 (.inr h)))
section
variable {w0 w w' : World} {ps : List Asn} {i j : Nat} {q : Asn}
/-- A part is brought to the front. -/
theorem Sp.bring (h : Sp w0 w ps) (hi : ps[i]? = some q) : Sp w0 w (q :: ps.eraseIdx i) := by
  obtain ⟨h1, F, h2, h3⟩ := h
  obtain ⟨F', h4, h5⟩ := sep_bring h2 hi
  exact ⟨h1, F', h4, fun b hb => h3 b (h5 b hb)⟩
end
/-- Parts are picked, by their places in what is left. -/
def pickQ : List Nat → List Asn → Option (List Asn)
  | [], _ => some []
  | i :: is, ps => match ps[i]? with
    | none => none
    | some q => match pickQ is (ps.eraseIdx i) with
      | none => none
      | some qs => some (q :: qs)
theorem sep_pick {w : World} : ∀ {is : List Nat} {ps qs : List Asn} {F : List Nat}, sep ps w F → pickQ is ps = some qs → ∃ F', sep qs w F' ∧ ∀ b ∈ F', b ∈ F
  | [], _, _, _, _, hq => by
    simp only [pickQ, Option.some.injEq] at hq
    subst hq
    exact ⟨[], rfl, by simp⟩
  | i :: is, ps, qs, F, h, hq => by
    unfold pickQ at hq
    cases hi : ps[i]? with
    | none => rw [hi] at hq; cases hq
    | some q =>
      rw [hi] at hq
      simp only at hq
      cases hr : pickQ is (ps.eraseIdx i) with
      | none => rw [hr] at hq; cases hq
      | some rs =>
        rw [hr] at hq
        simp only [Option.some.injEq] at hq
        subst hq
        obtain ⟨F1, ⟨F2, F3, rfl, hd, h1, h2⟩, hs⟩ := sep_bring h hi
        obtain ⟨F4, h3, h4⟩ := sep_pick h2 hr
        exact ⟨F2 ++ F4, ⟨F2, F4, rfl, fun b hb hb4 => hd b hb (h4 b hb4), h1, h3⟩, fun b hb => by
          rcases List.mem_append.1 hb with hb | hb
          · exact hs b (List.mem_append.2 (.inl hb))
          · exact hs b (List.mem_append.2 (.inr (h4 b hb)))⟩
theorem Sp.pick {w0 w : World} {ps qs : List Asn} (is : List Nat) (h : Sp w0 w ps) (hq : pickQ is ps = some qs) : Sp w0 w qs := by
  obtain ⟨h1, F, h2, h3⟩ := h
  obtain ⟨F', h4, h5⟩ := sep_pick h2 hq
  exact ⟨h1, F', h4, fun b hb => h3 b (h5 b hb)⟩
end Go.Proofs.YtahbepajeplcmaaGreatDoor

/- Contracts: the clause of a text, in the reference. Printed by gen_lte.py. -/
namespace Go.Proofs.YtahbepajeplcmaaGreatDoor
open Go.RowKit

/-- The result of 'l1Split', as a row of its own. -/
def SplitPostO (w : World) (l : List UInt8) (b : Int) (e : Ending) (w' : World) : Prop :=
  ∃ (v : Value) (ps : List ByteArray), e = .returned v ∧ w'.ownsRow w.heap.size 9 1 v ps.length (ps.map Value.string) ∧ ps.map bl = splitP b l ∧ Below w.heap.size w w'
theorem SplitRel.doneO {s : ByteArray} {b : Int} {w wr w1 : World} {v v' : Value} {fr : Nat} {ps : List ByteArray} (h : SplitRel s b w wr v fr s.size ps)
    (hown : w1.ownsRow w.heap.size 9 1 v' (ps.length + 1) (ps.map Value.string ++ [.string (s.extract fr s.size)])) (hB : Below w.heap.size w w1) : SplitPostO w (bl s) b (.returned v') w1 := by
  obtain ⟨h1, h2, h3, h4, h5, h6, h7⟩ := h
  have e : ((bl s).drop fr).take (s.size - fr) = (bl s).drop fr := List.take_of_length_le (by rw [List.length_drop, bl_length]; exact Nat.le_refl _)
  rw [e] at h6
  rw [splitP_none h6] at h5
  have hown2 : w1.ownsRow w.heap.size 9 1 v' (ps ++ [s.extract fr s.size]).length ((ps ++ [s.extract fr s.size]).map Value.string) := by simpa using hown
  refine ⟨v', ps ++ [s.extract fr s.size], rfl, hown2, ?_, hB⟩
  rw [h5, List.map_append]; congr 1
  show [bl (s.extract fr s.size)] = _
  rw [extract_piece, e]

set_option maxHeartbeats 2000000 in
theorem l1SplitO_any (s : ByteArray) (b : Int) (w : World) (hs : s.size ≤ 1000000000000) :
    Calls Tryz.prog 107 #[.string s, .int .u8 b] w (SplitPostO w (bl s) b) := by
  obtain ⟨i0, hi, hz0, hz1, hz2⟩ := info_parts infoStr
  go_enter Tryz.func107, Tryz.ntmps107
  go_wp2_with fail
  go_loopw [5, 6, 7] (fun v f i wr => ∃ (fr k : Nat) (ps : List ByteArray), f = .int .i64 fr ∧ i = .int .i64 k ∧ SplitRel s b w wr v fr k ps) (fun _ _ i _ => s.size - (intOf i).toNat)
  case atStart => exact ⟨0, 0, [], rfl, rfl, SplitRel.start s b w _ _ (World.ownsRow_made w #[] 0 (Nat.le_refl _) (by decide) rfl)⟩
  case round =>
    obtain ⟨fr, k, ps, rfl, rfl, HR⟩ := hrel
    obtain ⟨h1, h2, h3, hown, _, _, hB⟩ := id HR
    have hsz := hB.size
    replace HR := (show Hid (SplitRel s b w wr u5 fr k ps) from HR)
    by_cases hlt : k < s.size
    · by_cases hb : ((s[k].toNat : Int) == b) = true
      · go_wp2_with (at_builtin; refine wpList_append_own _ rfl _ _ 37 rfl w.heap.size 9 i0 (.string ByteArray.empty) 1 16 Tryz.underlying37 hi hz0 hz1 hz2 rfl (by decide) _ _ _ rfl (hown.alloc _) ⟨wr.heap.size, 0, none⟩ 1 1 [.string (s.extract fr k)] rfl rfl ?c1 ?c2 ?c3 ?c4 ?c5 ?_)
        case c1 =>
          intro j u hj
          match j, hj with
          | 0, hj => simp at hj; subst hj; simp [Addr.add]
        case c2 => intro u hu; simp at hu; subst hu; rfl
        case c3 => unfold maxLen; omega
        case c4 => omega
        case c5 => simp; omega
        intro v' w1 hown' hgrow _
        have hB1 : Below w.heap.size w w1 := (hB.alloc hsz _).grown hgrow (by simp; omega) (fun q hq => (hown.lt q hq).1)
        have HN := HR.out.hit hlt hb hown' hB1
        clear hown' hgrow hown hB
        replace HN := (show Hid (SplitRel s b w w1 v' (k + 1) (k + 1) (ps ++ [s.extract fr k])) from HN)
        go_wp2
        go_roundw
        case rel => exact ⟨k + 1, k + 1, _, by go_num, by go_num, HN.out⟩
        case measure => simp [intOf]; omega
      · have hb' : ((s[k].toNat : Int) == b) = false := by simpa using hb
        have HN := HR.out.miss hlt hb'
        replace HN := (show Hid (SplitRel s b w wr u5 fr (k + 1) ps) from HN)
        clear hb
        go_wp2_with fail
        go_roundw
        case rel => exact ⟨fr, k + 1, _, by go_num, by go_num, HN.out⟩
        case measure => simp [intOf]; omega
    · obtain rfl : k = s.size := by omega
      go_wp2_with (at_builtin; refine wpList_append_own _ rfl _ _ 37 rfl w.heap.size 9 i0 (.string ByteArray.empty) 1 16 Tryz.underlying37 hi hz0 hz1 hz2 rfl (by decide) _ _ _ rfl (hown.alloc _) ⟨wr.heap.size, 0, none⟩ 1 1 [.string (s.extract fr s.size)] rfl rfl ?d1 ?d2 ?d3 ?d4 ?d5 ?_)
      case d1 =>
        intro j u hj
        match j, hj with
        | 0, hj => simp at hj; subst hj; simp [Addr.add]
      case d2 => intro u hu; simp at hu; subst hu; rfl
      case d3 => unfold maxLen; omega
      case d4 => omega
      case d5 => simp; omega
      intro v' w1 hown' hgrow _
      have hB1 : Below w.heap.size w w1 := (hB.alloc hsz _).grown hgrow (by simp; omega) (fun q hq => (hown.lt q hq).1)
      have HN := HR.out.doneO hown' hB1
      clear hown' hgrow hown hB
      replace HN := (show Hid (SplitPostO w (bl s) b (.returned v') w1) from HN)
      go_wp2_with fail
      go_ret
      exact HN.out

theorem pc_made {r : List Int × Bool} {q : Bool} {w w' : World} {A : Option Addr} {c : Nat} (h : r = ([], q)) (hS : Sp w w' [Own 3 1 (.slice A 0 c) 0 []]) : PCPost r w (.returned (.tuple #[.slice A 0 c, .bool q])) w' := by
  subst h
  exact ⟨A, c, rfl, hS⟩
theorem nums_within {ps : List (List UInt8)} (h : numsOk ps = true) : Within 1000000 (numsV ps) := by
  intro z hz
  obtain ⟨p, hp, rfl⟩ := List.mem_map.1 hz
  have := numB_back (p := p) (List.all_eq_true.1 h p hp)
  omega

set_option maxRecDepth 100000 in
set_option maxHeartbeats 8000000 in
theorem l2Parse_any (vars : Int) (s : ByteArray) (w : World) (hs : s.size ≤ 900000) :
    Calls Tryz.prog 96 #[.int .i64 vars, .string s] w (PCPost (parC vars (bl s)) w) := by
  have S0 := Lib.hid ((Sp.start w).own_made 3 1)
  obtain ⟨i0, hi, hz0, hz1, hz2⟩ := info_parts infoInt
  by_cases h0 : bl s = noneT
  · have hR : Hid (parC vars (bl s) = ([], inB vars 0 12)) := parC_none h0
    have hs0 : s = ⟨#[110, 111, 110, 101]⟩ := by rw [← ms_bl s, h0]; rfl
    subst hs0
    go_enter Tryz.func96, Tryz.ntmps96
    go_wp2_with (go_at_call 109; refine (l2Vars_any _ _).mono ?_; rintro e w1 ⟨rfl, rfl⟩)
    go_ret2
    exact pc_made hR.out S0.out
  have hne : ((bl s) == [110, 111, 110, 101]) = false := beq_eq_false_iff_ne.2 h0
  have hlong := Lib.hid (fun pp (hp : splitP 32 (bl s) = pp) (hl : 12 < pp.length) => par_long (vars := vars) h0 hp hl)
  have hfail := Lib.hid (fun pp (hp : splitP 32 (bl s) = pp) (k : Nat) (hk : k < pp.length) (hn : (numB pp[k]).2 = false) => par_fail (vars := vars) h0 hp hk hn)
  have hcla := Lib.hid (fun pp (hp : splitP 32 (bl s) = pp) (ho : numsOk pp = true) => par_clause (vars := vars) h0 hp ho)
  have htxt := Lib.hid (fun (c : List Int) (h : parC vars (bl s) = (c, true)) => (text_par h).1)
  have hsl := splitP_len 32 (bl s)
  rw [bl_length] at hsl
  have hpsz := Lib.hid (split_part_len 32 (bl s))
  have hspl := Lib.hid (fun W => l1SplitO_any s 32 W (by omega))
  have hbs : Hid ((bl s).length = s.size) := bl_length s
  obtain ⟨pp, hpp⟩ : ∃ pp, splitP 32 (bl s) = pp := ⟨_, rfl⟩
  obtain ⟨R, hRR⟩ : ∃ R, parC vars (bl s) = R := ⟨_, rfl⟩
  unfold SplitPostO at hspl
  rw [hpp] at hlong hfail hcla hsl hpsz hspl
  rw [hRR] at hlong hfail hcla htxt ⊢
  replace hlong := Lib.hid (hlong.out pp rfl)
  replace hfail := Lib.hid (hfail.out pp rfl)
  replace hcla := Lib.hid (hcla.out pp rfl)
  clear hRR hpp h0
  go_enter Tryz.func96, Tryz.ntmps96
  go_wp2_with fail
  refine (hspl.out _).mono ?_
  rintro e w1 ⟨v1, ps, rfl, ho1, hmap, hb1⟩
  have hpl : ps.length = pp.length := by rw [← hmap, List.length_map]
  have S1 : Hid (Sp w w1 [Own 9 1 v1 ps.length (ps.map .string), Own 3 1 (.slice (some ⟨w.heap.size, 0, none⟩) ([] : List Int).length 0) ([] : List Int).length (([] : List Int).map (.int .i64))]) := S0.out.own_call hb1 ho1
  obtain ⟨PB, pc, rfl⟩ := own_slice ho1
  replace hmap := Lib.hid hmap
  clear S0 hb1 ho1 hspl
  go_wp2_with fail
  go_loopw [6, 8, 9, 10] (fun vo vi _ _ wr => ∃ (c : List Int) (B : Option Addr) (cap : Nat), c.length ≤ ps.length ∧ c.length ≤ 13 ∧ vi = .int .i64 (c.length : Nat) ∧ vo = .slice B c.length cap ∧ Hid (numsOk (pp.take c.length) = true ∧ c = numsV (pp.take c.length)) ∧ Hid (Sp w wr [Own 9 1 (.slice PB ps.length pc) ps.length (ps.map .string), Own 3 1 (.slice B c.length cap) c.length (c.map (.int .i64))])) (fun _ vi _ _ _ => ps.length + 20 - (intOf vi).toNat)
  case atStart => exact ⟨[], _, _, Nat.zero_le _, by simp, rfl, rfl, ⟨rfl, rfl⟩, S1⟩
  case round =>
    obtain ⟨c, B, cap, hk, hk13, rfl, rfl, HW, HS⟩ := hrel
    clear S1
    go_upto_region 6 with fail
    go_cut [26] (fun v wx => ∃ q : Bool, v = .bool q ∧ Hid ((q = true → c.length < ps.length ∧ c.length ≤ 12) ∧ (q = false → c.length = ps.length ∨ 12 < ps.length)) ∧ Hid (Sp w wx [Own 9 1 (.slice PB ps.length pc) ps.length (ps.map .string), Own 3 1 (.slice B c.length cap) c.length (c.map (.int .i64))]))
    case first =>
      have hcond : (c.length < ps.length ∧ c.length ≤ 12) ∨ ¬ c.length < ps.length ∨ (c.length < ps.length ∧ ¬ c.length ≤ 12) := by omega
      rcases hcond with ⟨hm, hn0⟩ | hm | ⟨hm, hn0⟩
      · have d1 : decide ((c.length : Int) < (ps.length : Int)) = true := decide_eq_true (by omega)
        have d2 : decide ((c.length : Int) ≤ 12) = true := decide_eq_true (by omega)
        have hq : Hid ((true = true → c.length < ps.length ∧ c.length ≤ 12) ∧ (true = false → c.length = ps.length ∨ 12 < ps.length)) := ⟨fun _ => ⟨hm, hn0⟩, fun e => by cases e⟩
        go_wp2_with fail
        go_meet
        exact ⟨true, rfl, ⟨fun _ => ⟨hm, hn0⟩, fun e => by cases e⟩, HS⟩
      · have d1 : decide ((c.length : Int) < (ps.length : Int)) = false := decide_eq_false (by omega)
        go_wp2_with fail
        go_meet
        exact ⟨false, rfl, ⟨(fun e => by cases e), fun _ => .inl (by omega)⟩, HS⟩
      · have d1 : decide ((c.length : Int) < (ps.length : Int)) = true := decide_eq_true (by omega)
        have d2 : decide ((c.length : Int) ≤ 12) = false := decide_eq_false (by omega)
        go_wp2_with fail
        go_meet
        exact ⟨false, rfl, ⟨(fun e => by cases e), fun _ => .inr (by omega)⟩, HS⟩
    case rest =>
    clear HS
    obtain ⟨q, rfl, hq, HS⟩ := hcut
    cases q
    case true =>
      obtain ⟨hm, hn0⟩ := hq.out.1 rfl
      clear hq
      obtain ⟨b, off, rfl, m0⟩ := strs_own (HS.out.own (i := 0) rfl) hm
      have hmp : c.length < pp.length := by omega
      have hpk : bl ps[c.length] = pp[c.length] := by simp only [← hmap.out, List.getElem_map]
      have hsz : ps[c.length].size ≤ s.size := by
        have := hpsz.out _ (List.getElem_mem hmp)
        rw [← hpk, bl_length, hbs.out] at this
        exact this
      have hrd := Lib.hid (fun W => l1Read_any ps[c.length] W (by omega))
      have hst := nums_step hmp HW.out.1
      have hno := hfail.out c.length hmp
      rw [hpk] at hrd
      generalize ps[c.length] = p at *
      generalize hzz : numB pp[c.length] = zz at *
      obtain ⟨z, q⟩ := zz
      dsimp only at hrd hst hno
      clear hpk hsz
      cases q
      · have hR2 := Lib.hid (hno rfl)
        clear hno hst
        go_wp2_with fail
        refine (hrd.out _).mono ?_
        rintro e w2 ⟨rfl, hb2⟩
        have S3 := Lib.hid ((HS.out.grow hb2).own_made 3 1)
        clear HS hrd hb2 m0
        go_wp2_with fail
        go_ret2
        exact pc_made hR2.out (S3.out.pick [0] rfl)
      · have hst2 := Lib.hid (hst rfl)
        clear hno hst
        go_wp2_with fail
        refine (hrd.out _).mono ?_
        rintro e w2 ⟨rfl, hb2⟩
        have S3 := (HS.out.grow hb2).alloc_box #[.int .i64 z] 3
        have kB := S3.cell (i := 0) rfl (o := 0) rfl
        replace S3 := Lib.hid S3
        clear HS hrd hb2 m0
        go_wp2_with (at_builtin; refine wpList_append_src rfl _ _ rfl Tryz.underlying43 hi hz0 hz1 hz2 rfl (by decide) _ _ _ rfl (S3.out.own (i := 2) rfl) _ 1 1 [.int .i64 z] rfl (Src.one kB) (by simp [Value.oneCell']) ?c3 ?c4 ?_)
        case c3 => unfold maxLen; omega
        case c4 => omega
        intro vY wY hownY hgY hatY
        have S4 := (S3.out.own_push (i := 2) rfl (bb _) hownY hgY (by simpa using hatY)).tail
        obtain ⟨aY, cY, rfl⟩ := own_slice hownY
        have hlen : c.length + 1 = (c ++ [z]).length := by simp
        have HS3 : Hid (Sp w wY [Own 9 1 (.slice (some ⟨b, off, none⟩) ps.length pc) ps.length (ps.map .string), Own 3 1 (.slice aY (c ++ [z]).length cY) (c ++ [z]).length ((c ++ [z]).map (.int .i64))]) := by
          unfold Hid; rw [← hlen, List.map_append]; exact S4
        have HW2 : Hid (numsOk (pp.take (c ++ [z]).length) = true ∧ c ++ [z] = numsV (pp.take (c ++ [z]).length)) := by
          unfold Hid
          rw [← hlen]
          exact ⟨hst2.out.1, by rw [hst2.out.2, ← HW.out.2]⟩
        have hi1 : IntKind.i64.wrap ((c.length : Int) + 1) = ((c ++ [z]).length : Int) := by rw [IntWalk.i64_in _ (by omega), ← hlen]; omega
        rw [hlen]
        have hl2 : (c ++ [z]).length ≤ ps.length := by omega
        have hl3 : (c ++ [z]).length ≤ 13 := by omega
        have hl4 : c.length < (c ++ [z]).length := by omega
        clear HW hst2
        generalize c ++ [z] = c2 at *
        replace hlen := Lib.hid hlen
        clear S3 S4 kB hownY hgY hatY
        go_wp2_with fail
        go_roundw
        case rel => exact ⟨c2, aY, cY, hl2, hl3, rfl, rfl, HW2, HS3⟩
        case measure => simp [intOf]; omega
    case false =>
      have hq2 := Lib.hid (hq.out.2 rfl)
      clear hq
      have hW := nums_within HW.out.1
      rw [← HW.out.2] at hW
      obtain ⟨F, hr, -, -⟩ := own_row (HS.out.own (i := 1) rfl) (hW.i64 (by decide))
      obtain ⟨A', c', e', hI⟩ := ints_own (HS.out.own (i := 1) rfl) (hW.i64 (by decide))
      cases e'
      by_cases h12 : 12 < ps.length
      · have hR2 := Lib.hid (hlong.out (by omega))
        have d1 : decide ((12 : Int) < (ps.length : Int)) = true := decide_eq_true (by omega)
        have S3 := Lib.hid (HS.out.own_made 3 1)
        clear HS hr hI
        go_wp2_with fail
        go_ret2
        exact pc_made hR2.out (S3.out.pick [0] rfl)
      · have d1 : decide ((12 : Int) < (ps.length : Int)) = false := decide_eq_false (by omega)
        have hcl' : c.length = pp.length := by have := hq2.out; omega
        have htk : pp.take c.length = pp := List.take_of_length_le (by omega)
        have hok := HW.out
        rw [htk] at hok
        have hPC := hcla.out hok.1
        rw [← hok.2] at hPC
        obtain ⟨q, hq⟩ : ∃ q, clauseB vars c = q := ⟨_, rfl⟩
        have hcl := Lib.hid (l2Clause_at (w := wc) (Ty.row_down hr) hq)
        rw [hq] at hPC
        have htx := Lib.hid (fun W hb => l2Text_any c hW (by omega) B cap W (hI.grow hb))
        clear hr hI hq2 hok htk
        replace HW := Lib.hid HW
        replace hcl' := Lib.hid hcl'
        cases q
        · have hR2 : Hid (R = ([], false)) := hPC
          clear hPC
          go_wp2_with fail
          refine hcl.out.mono ?_
          rintro e w2 ⟨rfl, hb2⟩
          have S3 := Lib.hid ((HS.out.grow hb2).own_made 3 1)
          clear HS hcl htx hb2
          go_wp2_with fail
          go_ret2
          exact pc_made hR2.out (S3.out.pick [0] rfl)
        · have hR2 : Hid (R = (c, true)) := hPC
          have ht1 := htxt.out c hR2.out
          have htx2 := htx.out
          rw [ht1, ms_bl] at htx2
          replace htx2 := Lib.hid htx2
          clear hPC htx ht1
          go_wp2_with fail
          refine hcl.out.mono ?_
          rintro e w2 ⟨rfl, hb2⟩
          have S3 := Lib.hid (HS.out.grow hb2)
          have htx3 := Lib.hid (htx2.out _ hb2)
          clear HS hcl hb2 htx2
          go_wp2_with fail
          refine htx3.out.mono ?_
          rintro e w3 ⟨rfl, hb3⟩
          have S4 := Lib.hid (S3.out.grow hb3)
          clear S3 hb3 htx3
          go_wp2_with fail
          go_ret2
          have e1 := hR2.out
          subst e1
          exact ⟨_, _, rfl, S4.out.pick [1] rfl⟩

set_option maxHeartbeats 1000000 in
theorem specParseClause_any (vars : Int) (s : ByteArray) (w : World) (hs : s.size ≤ 900000) :
    Calls Tryz.prog 32 #[.int .i64 vars, .string s] w (PCPost (parC vars (bl s)) w) := by
  have hcall := Lib.hid (l2Parse_any vars s w hs)
  unfold PCPost at hcall
  go_enter Tryz.func32, Tryz.ntmps32
  go_wp2_with fail
  refine hcall.out.mono ?_
  rintro e w1 ⟨B, c, rfl, S⟩
  replace S := Lib.hid S
  go_wp2_with fail
  go_ret2
  exact ⟨_, _, rfl, S.out⟩
end Go.Proofs.YtahbepajeplcmaaGreatDoor

/- Contracts: clauses and Cnfs at bits, in the reference. -/
namespace Go.Proofs.YtahbepajeplcmaaGreatDoor
open Go.RowKit

theorem cl_next {c : List Int} {k : Nat} (hk : k < c.length) (b : Nat) : clT (c.take (k + 1)) b = (clT (c.take k) b || litT b c[k]) := by
  unfold clT
  rw [List.take_succ_eq_append_getElem hk, List.any_append]
  simp
theorem cl_take {c : List Int} {k b : Nat} (h : clT (c.take k) b = true) : clT c b = true := by
  unfold clT at *
  rw [List.any_eq_true] at *
  obtain ⟨x, hx, h⟩ := h
  exact ⟨x, List.mem_of_mem_take hx, h⟩
theorem md_next {xss : List (List Int)} {j : Nat} (hj : j < xss.length) (b : Nat) : modT (xss.take (j + 1)) b = (modT (xss.take j) b && clT xss[j] b) := by
  unfold modT
  rw [List.take_succ_eq_append_getElem hj, List.all_append]
  simp
theorem md_take {xss : List (List Int)} {j b : Nat} (h : modT (xss.take j) b = false) : modT xss b = false := by
  unfold modT at *
  rw [List.all_eq_false] at *
  obtain ⟨x, hx, h⟩ := h
  exact ⟨x, List.mem_of_mem_take hx, h⟩

/- left out: the seat has no spec.l5True -/

/- left out: the seat has no spec.l5All -/
end Go.Proofs.YtahbepajeplcmaaGreatDoor

/- Contracts: models that are counted and the least one, in the reference. -/
namespace Go.Proofs.YtahbepajeplcmaaGreatDoor
open Go.RowKit

def cntP (p : Nat → Bool) (k : Nat) : Nat := ((List.range k).filter p).length
theorem cntP_no {p : Nat → Bool} {k : Nat} (h : p k = false) : cntP p (k + 1) = cntP p k := by simp [cntP, List.range_succ, List.filter_append, h]
theorem cntP_yes {p : Nat → Bool} {k : Nat} (h : p k = true) : cntP p (k + 1) = cntP p k + 1 := by simp [cntP, List.range_succ, List.filter_append, h]
theorem cntP_le (p : Nat → Bool) (k : Nat) : cntP p k ≤ k := Nat.le_trans (List.length_filter_le _ _) (by simp)

/- left out: the seat has no spec.l5Models -/
end Go.Proofs.YtahbepajeplcmaaGreatDoor

/- Contracts: the least model, satisfiability and implied clauses, in the reference. -/
namespace Go.Proofs.YtahbepajeplcmaaGreatDoor
open Go.RowKit

theorem first_at {p : Nat → Bool} {k N : Nat} (hk : k < N) (h0 : (List.range k).any p = false) (h1 : p k = true) : idxP p (List.range N) = (k : Int) := by
  unfold idxP
  have ha : (List.range N).any p = true := List.any_eq_true.2 ⟨k, List.mem_range.2 hk, h1⟩
  rw [if_pos ha]
  have hl : k < (List.range N).length := by simpa using hk
  have : (List.range N).findIdx p = k := (List.findIdx_eq hl).2 ⟨by simpa using h1, fun j hj => by
    rw [List.any_eq_false] at h0
    have := h0 j (List.mem_range.2 hj)
    simpa using this⟩
  rw [this]
theorem first_no {p : Nat → Bool} {N : Nat} (h0 : (List.range N).any p = false) : idxP p (List.range N) = -1 := by
  unfold idxP
  rw [if_neg (by rw [h0]; decide)]
theorem rany_next {p : Nat → Bool} {k : Nat} : (List.range (k + 1)).any p = ((List.range k).any p || p k) := by
  simp [List.range_succ, List.any_append]
theorem rany_yes {p : Nat → Bool} {k N : Nat} (hk : k < N) (h : p k = true) : (List.range N).any p = true := List.any_eq_true.2 ⟨k, List.mem_range.2 hk, h⟩

/- left out: the seat has no spec.l5First -/

/- left out: the seat has no spec.l5Sat -/

/- left out: the seat has no spec.l5Implies -/
end Go.Proofs.YtahbepajeplcmaaGreatDoor

/- Contracts: counted and listed models, and implied clauses, of a Cnf in the reference. -/
namespace Go.Proofs.YtahbepajeplcmaaGreatDoor
open Go.RowKit

/-- Numbers that are told, and whether they are. -/
def IAns (w : World) (ok : Bool) (zs : List Int) (e : Ending) (w' : World) : Prop :=
  ∃ B cap, e = .returned (.tuple #[.slice B zs.length cap, .bool ok]) ∧ IntsAt w' B zs ∧ Below w.heap.size w w'
def allN (p : Nat → Bool) (k : Nat) : List Int := ((List.range k).filter p).map fun (m : Nat) => (m : Int)
theorem allN_no {p : Nat → Bool} {k : Nat} (h : p k = false) : allN p (k + 1) = allN p k := by simp [allN, List.range_succ, List.filter_append, h]
theorem allN_yes {p : Nat → Bool} {k : Nat} (h : p k = true) : allN p (k + 1) = allN p k ++ [(k : Int)] := by simp [allN, List.range_succ, List.filter_append, h]
theorem allN_len (p : Nat → Bool) (k : Nat) : (allN p k).length = cntP p k := by simp [allN, cntP]
theorem allN_ok (p : Nat → Bool) {k : Nat} (hk : k ≤ 4096) : ∀ x ∈ allN p k, I64 x := by
  intro x hx
  unfold allN at hx
  rw [List.mem_map] at hx
  obtain ⟨m, hm, rfl⟩ := hx
  have := List.mem_range.1 (List.mem_filter.1 hm).1
  unfold I64; omega

/- left out: the seat has no spec.CountCnfModels -/

/- left out: the seat has no spec.AllModels -/
end Go.Proofs.YtahbepajeplcmaaGreatDoor

/- Contract: an implied clause of a Cnf in the reference. -/
namespace Go.Proofs.YtahbepajeplcmaaGreatDoor
open Go.RowKit

/-- A clause is true for all models. -/
def impB (n : Nat) (xss : List (List Int)) (d : List Int) : Bool := !((List.range (2 ^ n)).any fun b => !clT d b && modT xss b)
theorem ints_lone {w : World} {b : Nat} {z : Int} (h : w.cell? ⟨b, 0, none⟩ = some (.int .i64 z)) (hz : I64 z) : IntsAt w (some ⟨b, 0, none⟩) [z] :=
  ⟨fun j hj => by
    obtain rfl : j = 0 := by simpa using hj
    exact ⟨b, 0, rfl, h⟩, fun c hc => by
    obtain rfl : c = z := by simpa using hc
    exact hz⟩

/- left out: the seat has no spec.ImpliesClause -/
end Go.Proofs.YtahbepajeplcmaaGreatDoor

/- Contract: the backbone of a Cnf in the reference. -/
namespace Go.Proofs.YtahbepajeplcmaaGreatDoor
open Go.RowKit

/-- The literals of the first variables that are true for all models. -/
def boneTo (n : Nat) (xss : List (List Int)) : Nat → List Int
  | 0 => []
  | k + 1 => boneTo n xss k ++ ((if impB n xss [(k : Int) + 1] then [(k : Int) + 1] else []) ++ (if impB n xss [-((k : Int) + 1)] then [-((k : Int) + 1)] else []))
theorem bone_len (n : Nat) (xss : List (List Int)) : ∀ k, (boneTo n xss k).length ≤ 2 * k
  | 0 => by simp [boneTo]
  | k + 1 => by
    have := bone_len n xss k
    unfold boneTo
    rw [List.length_append, List.length_append]
    split <;> split <;> simp <;> omega
theorem bone_ok (n : Nat) (xss : List (List Int)) : ∀ k, k ≤ 1000 → ∀ x ∈ boneTo n xss k, I64 x
  | 0, _ => by simp [boneTo]
  | k + 1, h => by
    have := bone_ok n xss k (by omega)
    unfold boneTo
    intro x hx
    rcases List.mem_append.1 hx with hx | hx
    · exact this x hx
    · rcases List.mem_append.1 hx with hx | hx
      · split at hx
        · obtain rfl : x = (k : Int) + 1 := by simpa using hx
          unfold I64; omega
        · simp at hx
      · split at hx
        · obtain rfl : x = -((k : Int) + 1) := by simpa using hx
          unfold I64; omega
        · simp at hx
theorem cls_lone {z : Int} (h0 : z ≠ 0) (h1 : -1000 ≤ z) (h2 : z ≤ 1000) : ClS [z] := ⟨fun l hl => by
  obtain rfl : l = z := by simpa using hl
  exact ⟨h0, h1, h2⟩, by simp⟩

/- left out: the seat has no spec.BackboneOf -/
end Go.Proofs.YtahbepajeplcmaaGreatDoor

/- Plain facts on models, backbones and implied clauses. -/
namespace Go.Proofs.YtahbepajeplcmaaGreatDoor
open Go.RowKit

theorem bone_next (n : Nat) (xss : List (List Int)) (k : Nat) : boneTo n xss (k + 1) = boneTo n xss k ++ ((if impB n xss [(k : Int) + 1] then [(k : Int) + 1] else []) ++ (if impB n xss [-((k : Int) + 1)] then [-((k : Int) + 1)] else [])) := rfl
theorem bone_mem (n : Nat) (xss : List (List Int)) : ∀ (k : Nat) (x : Int), x ∈ boneTo n xss k ↔ (x ≠ 0 ∧ x.natAbs ≤ k ∧ impB n xss [x] = true)
  | 0, x => by
    simp only [boneTo, List.not_mem_nil, false_iff]
    omega
  | k + 1, x => by
    rw [bone_next, List.mem_append, List.mem_append, bone_mem n xss k x]
    have a1 : x ∈ (if impB n xss [(k : Int) + 1] then [(k : Int) + 1] else []) ↔ x = (k : Int) + 1 ∧ impB n xss [x] = true := by
      split
      · rename_i h
        rw [List.mem_singleton]
        exact ⟨fun e => ⟨e, by rw [e]; exact h⟩, fun e => e.1⟩
      · rename_i h
        simp only [List.not_mem_nil, false_iff]
        rintro ⟨rfl, h2⟩
        exact h h2
    have a2 : x ∈ (if impB n xss [-((k : Int) + 1)] then [-((k : Int) + 1)] else []) ↔ x = -((k : Int) + 1) ∧ impB n xss [x] = true := by
      split
      · rename_i h
        rw [List.mem_singleton]
        exact ⟨fun e => ⟨e, by rw [e]; exact h⟩, fun e => e.1⟩
      · rename_i h
        simp only [List.not_mem_nil, false_iff]
        rintro ⟨rfl, h2⟩
        exact h h2
    rw [a1, a2]
    constructor
    · rintro (⟨h1, h2, h3⟩ | ⟨h1, h3⟩ | ⟨h1, h3⟩)
      · exact ⟨h1, by omega, h3⟩
      · exact ⟨by omega, by omega, h3⟩
      · exact ⟨by omega, by omega, h3⟩
    · rintro ⟨h1, h2, h3⟩
      by_cases h : x.natAbs ≤ k
      · exact .inl ⟨h1, h, h3⟩
      · by_cases hx : x = (k : Int) + 1
        · exact .inr (.inl ⟨hx, h3⟩)
        · exact .inr (.inr ⟨by omega, h3⟩)
theorem bone_contains {n : Nat} {xss : List (List Int)} {x : Int} (h0 : x ≠ 0) (h1 : x.natAbs ≤ n) : (boneTo n xss n).contains x = impB n xss [x] := by
  rw [Bool.eq_iff_iff, List.contains_iff_mem, bone_mem]
  exact ⟨fun h => h.2.2, fun h => ⟨h0, h1, h⟩⟩
theorem cl_one (x : Int) (b : Nat) : clT [x] b = litT b x := by simp [clT]
theorem lit_pos (k b : Nat) : litT b ((k : Int) + 1) = b.testBit k := by
  unfold litT
  rw [show ((k : Int) + 1).natAbs - 1 = k by omega, decide_eq_true (by omega : (0 : Int) < (k : Int) + 1)]
  simp
theorem lit_neg (k b : Nat) : litT b (-((k : Int) + 1)) = !b.testBit k := by
  unfold litT
  rw [show (-((k : Int) + 1)).natAbs - 1 = k by omega, decide_eq_false (by omega : ¬ (0 : Int) < -((k : Int) + 1))]
  cases b.testBit k <;> rfl
/-- The models in their order. -/
def mods (p : Nat → Bool) (N : Nat) : List Nat := (List.range N).filter p
theorem allN_eq (p : Nat → Bool) (N : Nat) : allN p N = (mods p N).map fun (m : Nat) => (m : Int) := rfl
theorem imp_mods (n : Nat) (xss : List (List Int)) (d : List Int) : impB n xss d = (mods (modT xss) (2 ^ n)).all (clT d) := by
  rw [Bool.eq_iff_iff]
  unfold impB mods
  rw [Bool.not_eq_true', List.any_eq_false, List.all_eq_true]
  constructor
  · intro h b hb
    have h1 := List.mem_filter.1 hb
    have h2 := h b h1.1
    rw [h1.2, Bool.and_true] at h2
    simpa using h2
  · intro h b hb
    cases hm : modT xss b
    · simp
    · rw [h b (List.mem_filter.2 ⟨hb, hm⟩)]
      simp
theorem bone_yes {n : Nat} {xss : List (List Int)} {k : Nat} (hk : k < n) : (boneTo n xss n).contains ((k : Int) + 1) = (mods (modT xss) (2 ^ n)).all fun b => b.testBit k := by
  rw [bone_contains (by omega) (by omega), imp_mods]
  congr 1
  funext b
  rw [cl_one, lit_pos]
theorem bone_no {n : Nat} {xss : List (List Int)} {k : Nat} (hk : k < n) : (boneTo n xss n).contains (-((k : Int) + 1)) = (mods (modT xss) (2 ^ n)).all fun b => !b.testBit k := by
  rw [bone_contains (by omega) (by omega), imp_mods]
  congr 1
  funext b
  rw [cl_one, lit_neg]
theorem mod_snoc (xss : List (List Int)) (d : List Int) (b : Nat) : modT (xss ++ [d]) b = (modT xss b && clT d b) := by simp [modT, List.all_append]
theorem equiv_imp (n : Nat) (xss : List (List Int)) (d : List Int) : ((List.range (2 ^ n)).all fun b => modT xss b == modT (xss ++ [d]) b) = impB n xss d := by
  rw [Bool.eq_iff_iff]
  unfold impB
  rw [Bool.not_eq_true', List.any_eq_false, List.all_eq_true]
  constructor
  · intro h b hb
    have h2 := h b hb
    rw [mod_snoc] at h2
    cases hm : modT xss b <;> cases hc : clT d b <;> simp_all
  · intro h b hb
    have h2 := h b hb
    rw [mod_snoc]
    cases hm : modT xss b <;> cases hc : clT d b <;> simp_all
theorem good_snoc {vars : Int} {xss : List (List Int)} {d : List Int} (h : goodB vars xss = true) (hc : clauseB vars d = true) (hl : xss.length < 60) : goodB vars (xss ++ [d]) = true := by
  unfold goodB at *
  simp only [Bool.and_eq_true, decide_eq_true_eq] at *
  refine ⟨⟨h.1.1, by simp; omega⟩, ?_⟩
  rw [List.all_append, h.2]
  simp [hc]
theorem all_first {p : Nat → Bool} {N : Nat} (h : (List.range N).any p = true) : ∃ m, (allN p N)[0]? = some (m : Int) ∧ idxP p (List.range N) = (m : Int) := by
  have hf : idxP p (List.range N) = ((List.range N).findIdx p : Nat) := by unfold idxP; rw [if_pos h]
  have hlt : (List.range N).findIdx p < (List.range N).length := List.findIdx_lt_length_of_exists (by simpa using List.any_eq_true.1 h)
  refine ⟨(List.range N).findIdx p, ?_, hf⟩
  have hfd : (List.range N).find? p = some ((List.range N).findIdx p) := by
    rw [List.find?_eq_some_iff_getElem]
    refine ⟨?_, _, hlt, by simp, fun j hj => ?_⟩
    · have := List.findIdx_getElem (w := hlt)
      simpa using this
    · have := List.not_of_lt_findIdx (xs := List.range N) (p := p) (i := j) hj
      simpa using this
  unfold allN
  rw [List.getElem?_map, ← List.head?_eq_getElem?, List.head?_filter, hfd]
  rfl
theorem cnt_pos {p : Nat → Bool} {N : Nat} : decide (0 < cntP p N) = (List.range N).any p := by
  rw [Bool.eq_iff_iff, decide_eq_true_eq, List.any_eq_true]
  unfold cntP
  rw [List.length_pos_iff_exists_mem]
  exact ⟨fun ⟨m, hm⟩ => ⟨m, (List.mem_filter.1 hm).1, (List.mem_filter.1 hm).2⟩, fun ⟨m, h1, h2⟩ => ⟨m, List.mem_filter.2 ⟨h1, h2⟩⟩⟩
/-- What the law's loop over the models has told of a bit. -/
theorem all_take_next {p : Nat → Bool} {ms : List Nat} {i : Nat} (hi : i < ms.length) : (ms.take (i + 1)).all p = ((ms.take i).all p && p ms[i]) := by
  rw [List.take_succ_eq_append_getElem hi, List.all_append]
  simp
end Go.Proofs.YtahbepajeplcmaaGreatDoor

/- Contracts: implied clauses, in the program. -/
namespace Go.Proofs.YtahbepajeplcmaaGreatDoor
open Go.RowKit

/-- Values of clauses that can be read. -/
def ClsV (w : World) (us : List Value) (xss : List (List Int)) : Prop := us.length = xss.length ∧ ∀ j (hj : j < xss.length), ∃ B c, us[j]? = some (.slice B xss[j].length c) ∧ IntsAt w B xss[j]
theorem cls_src {w : World} {A : Option Addr} {xss : List (List Int)} (h : ClsAt w A xss) : ∃ us, ClsV w us xss ∧ Src w A xss.length 1 us ∧ ∀ u ∈ us, u.oneCell' = true := by
  rcases Nat.eq_zero_or_pos xss.length with h0 | h0
  · obtain rfl : xss = [] := List.length_eq_zero_iff.1 h0
    exact ⟨[], ⟨rfl, fun j hj => absurd hj (by simp)⟩, .inl ⟨rfl, rfl⟩, by simp⟩
  · obtain ⟨b, off, -, -, rfl, -, -⟩ := h.at_ 0 h0
    have hat : ∀ j (hj : j < xss.length), ∃ B c, w.cell? ⟨b, off + j, none⟩ = some (.slice B xss[j].length c) ∧ IntsAt w B xss[j] := fun j hj => by
      obtain ⟨b', off', B, c, e, h1, h2⟩ := h.at_ j hj
      cases e
      exact ⟨B, c, h1, h2⟩
    refine ⟨(List.range xss.length).map fun j => (w.cell? ⟨b, off + j, none⟩).getD (.bool false), ⟨by simp, fun j hj => ?_⟩, .inr ⟨_, rfl, by simp, fun j u hu => ?_⟩, fun u hu => ?_⟩
    · obtain ⟨B, c, h1, h2⟩ := hat j hj
      exact ⟨B, c, by simp [List.getElem?_map, List.getElem?_range hj, h1], h2⟩
    · have hj : j < xss.length := by
        have := (List.getElem?_eq_some_iff.1 hu).1
        simpa using this
      obtain ⟨B, c, h1, h2⟩ := hat j hj
      rw [List.getElem?_map, List.getElem?_range hj] at hu
      simp only [Option.map_some, h1, Option.getD_some, Option.some.injEq] at hu
      rw [add_none, h1, hu]
    · obtain ⟨j, hj, rfl⟩ := List.mem_map.1 hu
      obtain ⟨B, c, h1, h2⟩ := hat j (List.mem_range.1 hj)
      rw [h1]; rfl
theorem ClsV.keep {w w' : World} {us : List Value} {xss : List (List Int)} (h : ClsV w us xss) (hb : Below w.heap.size w w') : ClsV w' us xss :=
  ⟨h.1, fun j hj => by
    obtain ⟨B, c, h1, h2⟩ := h.2 j hj
    exact ⟨B, c, h1, h2.grow hb⟩⟩
theorem ClsV.append {w : World} {us vs : List Value} {xss yss : List (List Int)} (h : ClsV w us xss) (k : ClsV w vs yss) : ClsV w (us ++ vs) (xss ++ yss) :=
  ⟨by simp [h.1, k.1], fun j hj => by
    by_cases hlt : j < xss.length
    · obtain ⟨B, c, h1, h2⟩ := h.2 j hlt
      rw [List.getElem_append_left hlt]
      exact ⟨B, c, by rw [List.getElem?_append_left (by rw [h.1]; exact hlt)]; exact h1, h2⟩
    · have hj2 : j - xss.length < yss.length := by rw [List.length_append] at hj; omega
      obtain ⟨B, c, h1, h2⟩ := k.2 _ hj2
      rw [List.getElem_append_right (by omega)]
      exact ⟨B, c, by rw [List.getElem?_append_right (by rw [h.1]; omega), h.1]; exact h1, h2⟩⟩
theorem ClsV.own {w : World} {B : Nat} {e : TypeId} {A : Option Addr} {c : Nat} {us : List Value} {xss : List (List Int)} (h : ClsV w us xss) (ho : w.ownsRow B e 1 (.slice A xss.length c) xss.length us) : ClsAt w A xss := ⟨fun j hj => by
  obtain ⟨g, cap, cur, e1, -, hh, -, -, -, ht⟩ := own_block ho (by omega)
  simp only [Value.slice.injEq] at e1
  obtain ⟨rfl, -, rfl⟩ := e1
  obtain ⟨B', c', h1, h2⟩ := h.2 j hj
  exact ⟨g, 0, B', c', rfl, by rw [Nat.zero_add, (own_at hh ht (o := j) (by omega)).1]; exact h1, h2⟩⟩

/- left out: the seat has no slices.Clone[[][]int,[]int] -/

abbrev oneP (r : Nat × Int) : Asn := Box r.1 3 #[.int .i64 r.2]
abbrev oneV (r : Nat × Int) : Value := .slice (some ⟨r.1, 0, none⟩) 1 1
theorem ones_cls {w0 w : World} {q : Asn} {rs : List (Nat × Int)} (h : Sp w0 w (q :: rs.map oneP)) (hI : ∀ r ∈ rs, I64 r.2) : ClsV w (rs.reverse.map oneV) (rs.reverse.map fun r => [r.2]) :=
  ⟨by simp, fun j hj => by
    have hj2 : j < rs.length := by simpa using hj
    have hk : (rs.reverse)[j]? = some (rs.reverse[j]'(by simpa using hj2)) := List.getElem?_eq_getElem _
    obtain ⟨r, hr⟩ : ∃ r, rs.reverse[j]'(by simpa using hj2) = r := ⟨_, rfl⟩
    rw [hr] at hk
    have hk2 : rs[rs.length - 1 - j]? = some r := by rw [List.getElem?_reverse hj2] at hk; exact hk
    have hb := h.box (i := rs.length - 1 - j + 1) (b := r.1) (t := 3) (cs := #[.int .i64 r.2]) (by rw [List.getElem?_cons_succ, List.getElem?_map, hk2]; rfl)
    have hmem : r ∈ rs := List.mem_of_getElem? hk2
    refine ⟨some ⟨r.1, 0, none⟩, 1, by rw [List.getElem?_map, hk]; simp, ?_⟩
    simp only [List.getElem_map, hr]
    exact ints_lone (by simp [World.cell?, hb.2.2]) (hI r hmem)⟩
theorem any_same {α : Type} {p q : α → Bool} {l : List α} (h : ∀ x ∈ l, p x = q x) : l.any p = l.any q := by
  rw [Bool.eq_iff_iff, List.any_eq_true, List.any_eq_true]
  exact ⟨fun ⟨x, h1, h2⟩ => ⟨x, h1, by rw [← h x h1]; exact h2⟩, fun ⟨x, h1, h2⟩ => ⟨x, h1, by rw [h x h1]; exact h2⟩⟩
theorem mod_negs {xss : List (List Int)} {c : List Int} {b : Nat} (hc : ∀ l ∈ c, l ≠ 0) : modT (xss ++ c.map fun l => [-l]) b = (!clT c b && modT xss b) := by
  have h2 : modT (c.map fun l => [-l]) b = !clT c b := by
    unfold modT clT
    rw [List.all_map, List.all_eq_not_any_not]
    congr 1
    refine any_same fun l hl => ?_
    · have h0 := hc l hl
      simp only [Function.comp, List.any_cons, List.any_nil, Bool.or_false]
      unfold litT
      rw [Int.natAbs_neg]
      by_cases hp : 0 < l
      · rw [decide_eq_true hp, decide_eq_false (by omega)]
        cases b.testBit (l.natAbs - 1) <;> rfl
      · rw [decide_eq_false hp, decide_eq_true (by omega)]
        cases b.testBit (l.natAbs - 1) <;> rfl
  have h3 : modT (xss ++ c.map fun l => [-l]) b = (modT xss b && modT (c.map fun l => [-l]) b) := by
    unfold modT
    rw [List.all_append]
  rw [h3, h2, Bool.and_comm]

/- left out: the seat has no impl.implies -/

/- left out: the seat has no impl.ImpliesClause -/
end Go.Proofs.YtahbepajeplcmaaGreatDoor

/- Contracts: chosen clauses of a Cnf, and whether they are a core. -/
namespace Go.Proofs.YtahbepajeplcmaaGreatDoor
open Go.RowKit

/-- The clauses with some indices. -/
def pickC (xss : List (List Int)) (is : List Nat) : List (List Int) := is.map fun i => xss.getD i []
def ofN (is : List Nat) : List Int := is.map fun (i : Nat) => (i : Int)
/-- The clauses with some indices have no model. -/
def coreB (n : Nat) (xss : List (List Int)) (is : List Nat) : Bool := !(List.range (2 ^ n)).any (modT (pickC xss is))
theorem ofN_len (is : List Nat) : (ofN is).length = is.length := by simp [ofN]
theorem ofN_get {is : List Nat} {k : Nat} (hk : k < is.length) : (ofN is)[k]'(by rw [ofN_len]; exact hk) = (is[k] : Int) := by simp [ofN]
theorem pick_len (xss : List (List Int)) (is : List Nat) : (pickC xss is).length = is.length := by simp [pickC]
theorem pick_take {xss : List (List Int)} {is : List Nat} {k : Nat} (hk : k < is.length) : pickC xss (is.take (k + 1)) = pickC xss (is.take k) ++ [xss.getD is[k] []] := by
  unfold pickC
  rw [List.take_succ_eq_append_getElem hk, List.map_append]; rfl
theorem pick_cls {xss : List (List Int)} {is : List Nat} (hc : ∀ c ∈ xss, ClS c) (hi : ∀ i ∈ is, i < xss.length) : ∀ c ∈ pickC xss is, ClS c := by
  intro c hc'
  obtain ⟨i, hm, rfl⟩ := List.mem_map.1 hc'
  have hlt := hi i hm
  rw [List.getD_eq_getElem?_getD, List.getElem?_eq_getElem hlt]
  exact hc _ (List.getElem_mem hlt)
theorem ClsV.snoc {w : World} {us : List Value} {xss yss : List (List Int)} {i : Nat} {B : Option Addr} {c : Nat} (h : ClsV w us yss) (hi : i < xss.length) (hI : IntsAt w B xss[i]) : ClsV w (us ++ [.slice B xss[i].length c]) (yss ++ [xss.getD i []]) := by
  have hg : xss.getD i [] = xss[i] := by rw [List.getD_eq_getElem?_getD, List.getElem?_eq_getElem hi]; rfl
  rw [hg]
  exact h.append ⟨rfl, fun j hj => by
    obtain rfl : j = 0 := by simpa using hj
    exact ⟨B, c, rfl, hI⟩⟩
/-- What 'chosen' gives. -/
def PickD (w : World) (xss : List (List Int)) (is : List Nat) (e : Ending) (w' : World) : Prop :=
  ∃ E ec us, e = .returned (.slice E is.length ec) ∧ ClsV w us (pickC xss is) ∧ Sp w w' [Own 43 1 (.slice E is.length ec) is.length us]
theorem PickD.cls {w w' : World} {xss : List (List Int)} {is : List Nat} {E : Option Addr} {ec : Nat} {us : List Value} (h : ClsV w us (pickC xss is)) (S : Sp w w' [Own 43 1 (.slice E is.length ec) is.length us]) : ClsAt w' E (pickC xss is) := by
  have h2 := S.own (i := 0) rfl
  rw [← pick_len xss is] at h2
  exact (h.keep S.below).own h2

/- left out: the seat has no impl.chosen -/

end Go.Proofs.YtahbepajeplcmaaGreatDoor

/- Contracts: chosen clauses in the reference; cores on both sides. -/
namespace Go.Proofs.YtahbepajeplcmaaGreatDoor
open Go.RowKit

/- left out: the seat has no spec.l5Some -/

/- left out: the seat has no impl.isCore -/

/- left out: the seat has no spec.l5Core -/
end Go.Proofs.YtahbepajeplcmaaGreatDoor
