/- How many clauses of each width there are: plain facts, and rows of numbers in a block. -/
import Derived.Test.YtebpknekaljgnaaNwX
import Derived.Test.YtebpknekaljgnaaHTail
namespace Go.Proofs.Ytebpknekaljgnaa
open Go.RowKit

/-- How many clauses there are of each width. -/
def cntB (L : List (List Int)) (m : Nat) : Nat := (L.filter (fun c => decide (c.length = m))).length
def profB (n : Nat) (L : List (List Int)) : List Int := (List.range n).map (fun m => ((cntB L m : Nat) : Int))
theorem profB_len (n : Nat) (L : List (List Int)) : (profB n L).length = n := by simp [profB]
theorem profB_get (n : Nat) (L : List (List Int)) {m : Nat} (h : m < n) : (profB n L)[m]? = some ((cntB L m : Nat) : Int) := by
  unfold profB
  rw [List.getElem?_map, List.getElem?_range h]; rfl
theorem cnt_le (L : List (List Int)) (m : Nat) : cntB L m ≤ L.length := List.length_filter_le _ _
theorem profB_nil (n : Nat) : profB n [] = List.replicate n 0 := by
  apply List.ext_getElem?
  intro i
  by_cases h : i < n
  · rw [profB_get n [] h, List.getElem?_replicate, if_pos h]; rfl
  · rw [List.getElem?_eq_none (by rw [profB_len]; omega), List.getElem?_eq_none (by simp; omega)]
theorem profB_snoc {n : Nat} {L : List (List Int)} {c : List Int} (hc : c.length < n) : profB n (L ++ [c]) = (profB n L).set c.length (((cntB L c.length : Nat) : Int) + 1) := by
  apply List.ext_getElem?
  intro i
  rw [List.getElem?_set]
  by_cases h : i < n
  · rw [profB_get n _ h]
    by_cases e : c.length = i
    · subst e
      rw [if_pos rfl, if_pos (by rw [profB_len]; exact h)]
      simp [cntB, List.filter_append]
    · rw [if_neg e, profB_get n L h]
      have : ¬ (decide (c.length = i) = true) := by simp [e]
      simp [cntB, List.filter_append, e]
  · rw [List.getElem?_eq_none (by rw [profB_len]; omega)]
    by_cases e : c.length = i
    · omega
    · rw [if_neg e, List.getElem?_eq_none (by rw [profB_len]; omega)]
theorem profB_same {n : Nat} {L M : List (List Int)} (hL : L.Nodup) (hM : M.Nodup) (h : ∀ c, c ∈ L ↔ c ∈ M) : profB n L = profB n M := by
  unfold profB
  refine List.map_congr_left fun m _ => ?_
  have : cntB L m = cntB M m := nodup_same (hL.filter _) (hM.filter _) fun c => by rw [List.mem_filter, List.mem_filter, h]
  rw [this]
theorem profB_i64 {n : Nat} {L : List (List Int)} (h : L.length ≤ 100000) : ∀ y ∈ profB n L, I64 y := fun y hy => by
  unfold profB at hy
  obtain ⟨m, _, rfl⟩ := List.mem_map.1 hy
  have := cnt_le L m
  unfold I64; omega

/-- The answer. -/
structure ProfIs (ok : Bool) (F0 : List (List Int)) (width : Int) (ys : List Int) : Prop where
  no : ok = false → ys = []
  yes : ok = true → ∃ L, L.Nodup ∧ (∀ c, c ∈ L ↔ ∃ r, inR F0 width r c) ∧ ys = profB (width.toNat + 1) L
  few : ys.length ≤ 1000
theorem ProfIs.one {ok : Bool} {F0 : List (List Int)} {width : Int} {ys ys' : List Int} (h : ProfIs ok F0 width ys) (h' : ProfIs ok F0 width ys') : ys = ys' := by
  cases ok
  · rw [h.no rfl, h'.no rfl]
  · obtain ⟨L, h1, h2, rfl⟩ := h.yes rfl
    obtain ⟨M, k1, k2, rfl⟩ := h'.yes rfl
    exact profB_same h1 k1 fun c => (h2 c).trans (k2 c).symm
def ProfPost (ok : Bool) (F0 : List (List Int)) (width : Int) (w : World) (e : Ending) (w' : World) : Prop :=
  ∃ v ys Fb, e = .returned (.tuple #[v, .bool ok]) ∧ Ty.int.row true w' v ys Fb ∧ Fb.Nodup ∧ (∀ b ∈ Fb, w.heap.size ≤ b) ∧ Below w.heap.size w w' ∧ ProfIs ok F0 width ys

/-- A row of numbers that fills its block. -/
abbrev Arr (b : Nat) (ys : List Int) : Asn := Box b 3 (ys.map (Value.int .i64)).toArray
section
variable {w0 w : World} {ps : List Asn} {i b : Nat} {ys : List Int}
theorem Sp.arr_cell (h : Sp w0 w ps) (hi : ps[i]? = some (Arr b ys)) {k : Nat} {y : Int} (hk : ys[k]? = some y) : w.cell? ⟨b, k, none⟩ = some (.int .i64 y) :=
  h.cell hi (by rw [List.getElem?_toArray, List.getElem?_map, hk]; rfl)
theorem Sp.arr_set (h : Sp w0 w ps) (hi : ps[i]? = some (Arr b ys)) (k : Nat) (y : Int) : Sp w0 (w.setCell ⟨b, k, none⟩ (.int .i64 y)) (ps.set i (Arr b (ys.set k y))) := by
  have := h.store hi k (.int .i64 y)
  rw [List.setIfInBounds_toArray, ← List.map_set] at this
  exact this
theorem Sp.arr_row (h : Sp w0 w ps) (hi : ps[i]? = some (Arr b ys)) (h64 : ∀ y ∈ ys, I64 y) (hne : ys ≠ []) (hl : ys.length ≤ 1000000) : Ty.int.row true w (.slice (some ⟨b, 0, none⟩) ys.length ys.length) ys [b] ∧ w0.heap.size ≤ b :=
  ⟨row_int_mk h64 (Nat.le_refl _) (by omega) hne (fun j hj => by
    rw [Nat.zero_add]
    exact ⟨h.arr_cell hi (List.getElem?_eq_getElem hj), fun _ => h.frozen hi j⟩), (h.box hi).1⟩
end
theorem wp_make_ints {o : Oper} {a : Act} {w : World} {K : Act → World → Prop} {Q : Exit → Act → World → Prop} (l c : Operand) (hop : o.op = .makeSlice 25 l c) (n : Nat) (hl : a.eval l = .int .i64 n) (hc : a.eval c = .int .i64 n) (hn : n ≤ 1000)
    (hK : K (a.put o.dst (.slice (some ⟨w.heap.size, 0, none⟩) n n)) (w.alloc (.cells ((List.replicate n (0 : Int)).map (Value.int .i64)).toArray 3))) : o.wp Try.prog a w K Q := by
  obtain ⟨i0, hi, hz0, hz1, hz2⟩ := info_parts infoInt
  have hr := run_make (P := Try.prog) w 25 3 i0 _ Try.underlying25 hi hz0 .i64 .i64 n n (by omega) (by omega) (by rw [hz2]; omega) (by omega)
  simp only [Int.toNat_natCast, hz1, Nat.mul_one] at hr
  have e : madeCells (Value.int .i64 0).cells n = ((List.replicate n (0 : Int)).map (Value.int .i64)).toArray := by
    rw [← Array.toList_inj]
    have := toList_madeCells_one (.int .i64 0) n
    simp [Value.cells] at this ⊢
    first | exact this | simpa using this
  rw [e] at hr
  unfold Oper.wp execOp
  simp only [hop, hl, hc, Sem.run_bind, Sem.run_pure, hr, Result.andThen_ok]
  exact hK
theorem wpList_make_ints {ops : Array Oper} {rest : List Oper} {o : Oper} {a : Act} {w : World} {Q : Exit → Act → World → Prop} (hgd : o.guard = none) (l c : Operand) (hop : o.op = .makeSlice 25 l c) (n : Nat) (hl : a.eval l = .int .i64 n) (hc : a.eval c = .int .i64 n) (hn : n ≤ 1000)
    (h : wpList Try.prog ops Q rest (a.put o.dst (.slice (some ⟨w.heap.size, 0, none⟩) n n)) (w.alloc (.cells ((List.replicate n (0 : Int)).map (Value.int .i64)).toArray 3))) : wpList Try.prog ops Q (o :: rest) a w :=
  wpList_plain hgd fun _ hK => wp_make_ints l c hop n hl hc hn (hK _ _ h)
end Go.Proofs.Ytebpknekaljgnaa
