/- Lemmas and contracts for a law, put together out of several texts: MdA MdB MdC MdD MdE MdF MdG. -/
import Derived.Test.YtbemodacpimiiaaGreatMg5
import Derived.Deep.DeepCutAuto
import Derived.Test.YtbemodacpimiiaaGreatMg6
/- Contracts: clauses and Cnfs at bits, in the reference. -/
namespace Go.Proofs.YtbemodacpimiiaaGreat
open Go.RowKit

theorem cl_next {c : List Int} {k : Nat} (hk : k < c.length) (b : Nat) : clT (c.take (k + 1)) b = (clT (c.take k) b || litT b c[k]) := by
  unfold clT
  rw [List.take_succ_eq_append_getElem hk, List.any_append]
  simp
theorem cl_take {c : List Int} {k b : Nat} (h : clT (c.take k) b = true) : clT c b = true := by
  unfold clT at *
  rw [List.any_eq_true] at *
  obtain ⟨x, hx, h⟩ := h
  exact ⟨x, List.mem_of_mem_take hx, h⟩
theorem md_next {xss : List (List Int)} {j : Nat} (hj : j < xss.length) (b : Nat) : modT (xss.take (j + 1)) b = (modT (xss.take j) b && clT xss[j] b) := by
  unfold modT
  rw [List.take_succ_eq_append_getElem hj, List.all_append]
  simp
theorem md_take {xss : List (List Int)} {j b : Nat} (h : modT (xss.take j) b = false) : modT xss b = false := by
  unfold modT at *
  rw [List.all_eq_false] at *
  obtain ⟨x, hx, h⟩ := h
  exact ⟨x, List.mem_of_mem_take hx, h⟩

/- left out: the seat has no spec.l5True -/

/- left out: the seat has no spec.l5All -/
end Go.Proofs.YtbemodacpimiiaaGreat

/- Contracts: models that are counted and the least one, in the reference. -/
namespace Go.Proofs.YtbemodacpimiiaaGreat
open Go.RowKit

def cntP (p : Nat → Bool) (k : Nat) : Nat := ((List.range k).filter p).length
theorem cntP_no {p : Nat → Bool} {k : Nat} (h : p k = false) : cntP p (k + 1) = cntP p k := by simp [cntP, List.range_succ, List.filter_append, h]
theorem cntP_yes {p : Nat → Bool} {k : Nat} (h : p k = true) : cntP p (k + 1) = cntP p k + 1 := by simp [cntP, List.range_succ, List.filter_append, h]
theorem cntP_le (p : Nat → Bool) (k : Nat) : cntP p k ≤ k := Nat.le_trans (List.length_filter_le _ _) (by simp)

/- left out: the seat has no spec.l5Models -/
end Go.Proofs.YtbemodacpimiiaaGreat

/- Contracts: the least model, satisfiability and implied clauses, in the reference. -/
namespace Go.Proofs.YtbemodacpimiiaaGreat
open Go.RowKit

theorem first_at {p : Nat → Bool} {k N : Nat} (hk : k < N) (h0 : (List.range k).any p = false) (h1 : p k = true) : idxP p (List.range N) = (k : Int) := by
  unfold idxP
  have ha : (List.range N).any p = true := List.any_eq_true.2 ⟨k, List.mem_range.2 hk, h1⟩
  rw [if_pos ha]
  have hl : k < (List.range N).length := by simpa using hk
  have : (List.range N).findIdx p = k := (List.findIdx_eq hl).2 ⟨by simpa using h1, fun j hj => by
    rw [List.any_eq_false] at h0
    have := h0 j (List.mem_range.2 hj)
    simpa using this⟩
  rw [this]
theorem first_no {p : Nat → Bool} {N : Nat} (h0 : (List.range N).any p = false) : idxP p (List.range N) = -1 := by
  unfold idxP
  rw [if_neg (by rw [h0]; decide)]
theorem rany_next {p : Nat → Bool} {k : Nat} : (List.range (k + 1)).any p = ((List.range k).any p || p k) := by
  simp [List.range_succ, List.any_append]
theorem rany_yes {p : Nat → Bool} {k N : Nat} (hk : k < N) (h : p k = true) : (List.range N).any p = true := List.any_eq_true.2 ⟨k, List.mem_range.2 hk, h⟩

/- left out: the seat has no spec.l5First -/

/- left out: the seat has no spec.l5Sat -/

/- left out: the seat has no spec.l5Implies -/
end Go.Proofs.YtbemodacpimiiaaGreat

/- Contracts: counted and listed models, and implied clauses, of a Cnf in the reference. -/
namespace Go.Proofs.YtbemodacpimiiaaGreat
open Go.RowKit

/-- Numbers that are told, and whether they are. -/
def IAns (w : World) (ok : Bool) (zs : List Int) (e : Ending) (w' : World) : Prop :=
  ∃ B cap, e = .returned (.tuple #[.slice B zs.length cap, .bool ok]) ∧ IntsAt w' B zs ∧ Below w.heap.size w w'
def allN (p : Nat → Bool) (k : Nat) : List Int := ((List.range k).filter p).map fun (m : Nat) => (m : Int)
theorem allN_no {p : Nat → Bool} {k : Nat} (h : p k = false) : allN p (k + 1) = allN p k := by simp [allN, List.range_succ, List.filter_append, h]
theorem allN_yes {p : Nat → Bool} {k : Nat} (h : p k = true) : allN p (k + 1) = allN p k ++ [(k : Int)] := by simp [allN, List.range_succ, List.filter_append, h]
theorem allN_len (p : Nat → Bool) (k : Nat) : (allN p k).length = cntP p k := by simp [allN, cntP]
theorem allN_ok (p : Nat → Bool) {k : Nat} (hk : k ≤ 4096) : ∀ x ∈ allN p k, I64 x := by
  intro x hx
  unfold allN at hx
  rw [List.mem_map] at hx
  obtain ⟨m, hm, rfl⟩ := hx
  have := List.mem_range.1 (List.mem_filter.1 hm).1
  unfold I64; omega

/- left out: the seat has no spec.CountCnfModels -/

/- left out: the seat has no spec.AllModels -/
end Go.Proofs.YtbemodacpimiiaaGreat

/- Contract: an implied clause of a Cnf in the reference. -/
namespace Go.Proofs.YtbemodacpimiiaaGreat
open Go.RowKit

/-- A clause is true for all models. -/
def impB (n : Nat) (xss : List (List Int)) (d : List Int) : Bool := !((List.range (2 ^ n)).any fun b => !clT d b && modT xss b)
theorem ints_lone {w : World} {b : Nat} {z : Int} (h : w.cell? ⟨b, 0, none⟩ = some (.int .i64 z)) (hz : I64 z) : IntsAt w (some ⟨b, 0, none⟩) [z] :=
  ⟨fun j hj => by
    obtain rfl : j = 0 := by simpa using hj
    exact ⟨b, 0, rfl, h⟩, fun c hc => by
    obtain rfl : c = z := by simpa using hc
    exact hz⟩

/- left out: the seat has no spec.ImpliesClause -/
end Go.Proofs.YtbemodacpimiiaaGreat

/- Contract: the backbone of a Cnf in the reference. -/
namespace Go.Proofs.YtbemodacpimiiaaGreat
open Go.RowKit

/-- The literals of the first variables that are true for all models. -/
def boneTo (n : Nat) (xss : List (List Int)) : Nat → List Int
  | 0 => []
  | k + 1 => boneTo n xss k ++ ((if impB n xss [(k : Int) + 1] then [(k : Int) + 1] else []) ++ (if impB n xss [-((k : Int) + 1)] then [-((k : Int) + 1)] else []))
theorem bone_len (n : Nat) (xss : List (List Int)) : ∀ k, (boneTo n xss k).length ≤ 2 * k
  | 0 => by simp [boneTo]
  | k + 1 => by
    have := bone_len n xss k
    unfold boneTo
    rw [List.length_append, List.length_append]
    split <;> split <;> simp <;> omega
theorem bone_ok (n : Nat) (xss : List (List Int)) : ∀ k, k ≤ 1000 → ∀ x ∈ boneTo n xss k, I64 x
  | 0, _ => by simp [boneTo]
  | k + 1, h => by
    have := bone_ok n xss k (by omega)
    unfold boneTo
    intro x hx
    rcases List.mem_append.1 hx with hx | hx
    · exact this x hx
    · rcases List.mem_append.1 hx with hx | hx
      · split at hx
        · obtain rfl : x = (k : Int) + 1 := by simpa using hx
          unfold I64; omega
        · simp at hx
      · split at hx
        · obtain rfl : x = -((k : Int) + 1) := by simpa using hx
          unfold I64; omega
        · simp at hx
theorem cls_lone {z : Int} (h0 : z ≠ 0) (h1 : -1000 ≤ z) (h2 : z ≤ 1000) : ClS [z] := ⟨fun l hl => by
  obtain rfl : l = z := by simpa using hl
  exact ⟨h0, h1, h2⟩, by simp⟩

/- left out: the seat has no spec.BackboneOf -/
end Go.Proofs.YtbemodacpimiiaaGreat

/- Contracts: counted models and the first one, in the program. -/
namespace Go.Proofs.YtbemodacpimiiaaGreat
open Go.RowKit

set_option maxRecDepth 100000 in
set_option maxHeartbeats 4000000 in
theorem countCnfModels_any (vars : Int) (v : Value) (xss : List (List Int)) (F : List Nat) (w : World) (hx : (Ty.slice Ty.int).row false w v xss F) (h1 : goodB vars xss = true) :
    Calls Tryz.prog 23 #[.agg #[.int .i64 vars, v]] w fun e w' => e = .returned (.tuple #[.int .i64 (cntP (modT xss) (2 ^ vars.toNat)), .bool true]) ∧ Below w.heap.size w w' := by
  obtain ⟨A, cap, rfl, hI⟩ := cls_row hx
  have hg := good_cnf h1
  obtain ⟨n, rfl⟩ := Int.eq_ofNat_of_zero_le hg.1.1
  rw [show (n : Int).toNat = n by omega]
  have hn : n ≤ 12 := by omega
  have hp := (pow12 hn).2
  have S0 := (Sp.start w).alloc_box #[.int .i64 n, .slice A xss.length cap] 45
  have hcall := Lib.hid (implIsCnf_any n _ xss F _ (Ty.row_below hx S0.below (Ty.row_lt hx)))
  have eg : Enter1 66 := enters_of Tryz.func66 (by kernel_rfl) rfl
  have hmod := Lib.hid (fun W (S : Sp w W [Box w.heap.size 45 #[.int .i64 n, .slice A xss.length cap]]) =>
    models_any (cb := #[.pointer (some ⟨W.heap.size, 0, none⟩)]) eg n hn xss hg.2.2.2 (by omega) A cap (W.alloc (.cells #[.int .i64 0] 3)) [W.heap.size] (by simp)
    (fun k V => Sp w V [Box W.heap.size 3 #[.int .i64 (cntP (modT xss) k)], Box w.heap.size 45 #[.int .i64 n, .slice A xss.length cap]])
    (S.alloc_box #[.int .i64 0] 3) (fun k V V' h hb => h.grow hb) (fun k V h => hI.grow h.below)
    (fun k V hm h => by rw [cntP_no hm]; exact h)
    (fun k V hk hm h => by
      have f0 := h.frozen (i := 0) rfl 0
      have c0 := h.cell (i := 0) rfl (o := 0) rfl
      have hcl := cntP_le (modT xss) k
      have hcn := Lib.hid (cntP_yes hm)
      have S1 := Lib.hid (h.store (i := 0) rfl 0 (.int .i64 ((cntP (modT xss) k : Int) + 1)))
      have hch := Lib.hid ((Chg.refl [W.heap.size] V).set (p := ⟨W.heap.size, 0, none⟩) (by simp) (.int .i64 ((cntP (modT xss) k : Int) + 1)))
      have hlt : k < 4096 := Nat.lt_of_lt_of_le hk hp
      generalize cntP (modT xss) k = c at *
      have hwc : IntKind.i64.wrap ((c : Int) + 1) = (c : Int) + 1 := IntWalk.i64_in _ (by omega)
      clear h hcl hk hm
      show Calls Tryz.prog 66 #[.int .i64 k, .pointer (some ⟨W.heap.size, 0, none⟩)] V _
      go_enter Tryz.func66, Tryz.ntmps66
      go_wp2_with fail
      go_ret
      exact ⟨true, rfl, hch.out, by rw [if_pos rfl, hcn.out]; exact S1.out⟩))
  replace S0 := Lib.hid S0
  have c0 := S0.out.cell (i := 0) rfl (o := 0) rfl
  have c1 := S0.out.cell (i := 0) rfl (o := 1) rfl
  rw [h1] at hcall
  clear eg hx hI hg h1
  generalize 2 ^ n = N at *
  go_enter Tryz.func23, Tryz.ntmps23
  go_wp2_with fail
  refine hcall.out.mono ?_
  rintro e w1 ⟨rfl, hb1⟩
  have S1 := Lib.hid (S0.out.grow hb1)
  have SA := S1.out.alloc_box #[.int .i64 0] 3
  have d0 := SA.cell (i := 1) rfl (o := 0) rfl
  have d1 := SA.cell (i := 1) rfl (o := 1) rfl
  clear SA
  have hm2 := Lib.hid (hmod.out _ S1.out)
  clear hcall hmod S0 S1 c0 c1 hb1
  go_wp2_with fail
  refine hm2.out.mono ?_
  rintro e w2 ⟨rfl, S2⟩
  have d2 := S2.cell (i := 0) rfl (o := 0) rfl
  have hB := S2.below
  clear hm2 S2 d0 d1
  go_wp2_with fail
  go_ret2
  exact ⟨rfl, hB⟩

set_option maxHeartbeats 2000000 in
theorem countCnfNo_any (vars : Int) (v : Value) (xss : List (List Int)) (F : List Nat) (w : World) (hx : (Ty.slice Ty.int).row false w v xss F) (h1 : goodB vars xss = false) :
    Calls Tryz.prog 23 #[.agg #[.int .i64 vars, v]] w fun e w' => e = .returned (.tuple #[.int .i64 0, .bool false]) ∧ Below w.heap.size w w' := by
  obtain ⟨A, cap, rfl, hI⟩ := cls_row hx
  have S0 := (Sp.start w).alloc_box #[.int .i64 vars, .slice A xss.length cap] 45
  have hcall := Lib.hid (implIsCnf_any vars _ xss F _ (Ty.row_below hx S0.below (Ty.row_lt hx)))
  replace S0 := Lib.hid S0
  have c0 := S0.out.cell (i := 0) rfl (o := 0) rfl
  have c1 := S0.out.cell (i := 0) rfl (o := 1) rfl
  rw [h1] at hcall
  clear hx hI h1
  go_enter Tryz.func23, Tryz.ntmps23
  go_wp2_with fail
  refine hcall.out.mono ?_
  rintro e w1 ⟨rfl, hb1⟩
  have hB := Lib.hid (S0.out.grow hb1).below
  clear hcall S0 c0 c1 hb1
  go_wp2_with fail
  go_ret2
  exact ⟨rfl, hB.out⟩

theorem idxP_next {p : Nat → Bool} {k : Nat} (h : p k = false) : idxP p (List.range (k + 1)) = idxP p (List.range k) := by
  unfold idxP
  rw [rany_next, h, Bool.or_false]
  cases ha : (List.range k).any p
  · rfl
  · rw [if_pos rfl, if_pos rfl, List.range_succ, List.findIdx_append, if_pos (List.findIdx_lt_length_of_exists (by simpa using List.any_eq_true.1 ha))]

/- left out: the seat has no impl.FirstModel -/
end Go.Proofs.YtbemodacpimiiaaGreat
