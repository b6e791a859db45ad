/- Lemmas and contracts for a law, put together out of several texts: GtU GtL GtO GtX GtY GtCa GtR. -/
import Derived.Test.YtkhopkonddgicaaMg5
import Derived.Test.YtkhopkonddgicaaMg1
import Derived.Test.YtkhopkonddgicaaMg3
/- Contract: a gate is folded. -/
namespace Go.Proofs.Ytkhopkonddgicaa
open Go.RowKit

set_option maxRecDepth 100000 in
set_option maxHeartbeats 8000000 in
theorem fold_any {w0 : World} {ps : List Asn} {vars : Int} (p : Nat) (sv : Value) (M : List Gt) (g : Gt) (w : World) (hok : ∀ x ∈ M, gtOk x) (hM : OkG vars M) (hl : M.length ≤ 1000) (hg : gtB vars M.length g = true) (HS : FoldSp w0 p sv M ps w) :
    Calls Try.prog 88 #[.pointer (some ⟨p, 0, none⟩), gtV g] w fun e w' => ∃ sv', e = .returned (.int .i64 ((foldG M g).2 : Nat)) ∧ FoldSp w0 p sv' (foldG M g).1 ps w' := by
  obtain ⟨k, a, b⟩ := g
  have hgi := gtB_iff.1 hg
  dsimp only at hgi
  have S3 := HS.alloc_box #[.int .i64 k, .int .i64 a, .int .i64 b] 41
  have hP : foldG M ⟨k, a, b⟩ = if k = 4 then
    if kindG M a = 2 then keepG M ⟨3, 0, 0⟩ else if kindG M a = 3 then keepG M ⟨2, 0, 0⟩
    else if kindG M a = 4 then (M, (M.getD a.toNat ⟨0, 0, 0⟩).a.toNat) else keepG M ⟨k, a, b⟩
    else if k = 5 then pairG M ⟨k, a, b⟩ 3 2 else if k = 6 then pairG M ⟨k, a, b⟩ 2 3 else keepG M ⟨k, a, b⟩ := rfl
  by_cases h4 : k = 4
  · subst h4
    obtain ⟨m, rfl⟩ : ∃ m : Nat, a = m := ⟨a.toNat, by omega⟩
    have hml : m < M.length := by omega
    have hmi : (m : Int) < M.length := by omega
    rw [if_pos rfl] at hP
    obtain ⟨A, c, rfl, hN⟩ := gt_own (HS.own (i := 1) rfl) hok
    obtain ⟨gb, off, rfl, m0, m1, m2⟩ := (hN.grow (bal (bb w) (.cells #[.int .i64 4, .int .i64 (m : Int), .int .i64 b] 41))).at_ m hml
    have hka : kindG M (m : Int) = M[m].k := kind_at (i := (m : Int)) (by omega)
    have hd : M.getD (m : Int).toNat ⟨0, 0, 0⟩ = M[m] := by rw [Int.toNat_natCast, List.getD_eq_getElem?_getD, List.getElem?_eq_getElem hml]; rfl
    have hma := gtB_iff.1 (hM m hml)
    rw [hka, hd] at hP
    have hk3 := Lib.hid (fun W h => keep_any (w0 := w0) (ps := ps) p (.slice (some ⟨gb, off, none⟩) M.length c) M ⟨3, 0, 0⟩ W hok hl h)
    have hk2 := Lib.hid (fun W h => keep_any (w0 := w0) (ps := ps) p (.slice (some ⟨gb, off, none⟩) M.length c) M ⟨2, 0, 0⟩ W hok hl h)
    have hk4 := Lib.hid (fun W h => keep_any (w0 := w0) (ps := ps) p (.slice (some ⟨gb, off, none⟩) M.length c) M ⟨4, (m : Int), b⟩ W hok hl h)
    have g1 := S3.cell (i := 0) rfl (o := 1) rfl
    have e0 := S3.cell (i := 1) rfl (o := 0) rfl
    generalize M[m] = q at *
    obtain ⟨qk, qa, qb⟩ := q
    dsimp only at m0 m1 m2 hma hP
    obtain ⟨R, hR⟩ : ∃ R, foldG M ⟨4, (m : Int), b⟩ = R := ⟨_, rfl⟩
    rw [hR] at hP ⊢
    clear hR
    replace S3 := Lib.hid S3
    replace hP := Lib.hid hP
    replace hma := Lib.hid hma
    clear hka hd hN hok hM hg HS hgi
    go_enter Try.func88, Try.ntmps88
    go_wp2_with fail
    refine wp_region_held_lit (S := (fun w' => w'.cell? ⟨p, 0, none⟩ = some (.slice (some ⟨gb, off, none⟩) M.length c) ∧ w'.cell? ⟨w.heap.size, 1, none⟩ = some (.int .i64 (m : Int)) ∧ w'.cell? ⟨gb, off + m * 3, none⟩ = some (.int .i64 qk) ∧ w'.cell? ⟨gb, off + m * 3 + 1, none⟩ = some (.int .i64 qa) ∧ w'.cell? ⟨gb, off + m * 3 + 2, none⟩ = some (.int .i64 qb))) 10 [false, false, false, false, false, false, false, false, false, false] (by kernel_rfl) (by kernel_rfl) (by kernel_rfl) ?_ ?_
    · exact ⟨e0, g1, m0, m1, m2⟩
    intro hSc
    (refine wpAnyH_take (i := 0) (v := ?_) rfl (by kernel_rfl) (by kernel_rfl) (by kernel_rfl) (fun _ _ _ h => h) (Or.inl ⟨by rfl, ?_⟩) (by assumption) ?_; rotate_left; (focus (intro w hSw; (try dsimp only at hSw); go_simp; (try with_reducible rfl); done)); (try simp only [put_rules]))
    (refine wpAnyH_take (i := 1) (v := ?_) rfl (by kernel_rfl) (by kernel_rfl) (by kernel_rfl) (fun _ _ _ h => h) (Or.inl ⟨by rfl, ?_⟩) (by assumption) ?_; rotate_left; (focus (intro w hSw; (try dsimp only at hSw); go_simp; (try with_reducible rfl); done)); (try simp only [put_rules]))
    (refine wpAnyH_take (i := 2) (v := ?_) rfl (by kernel_rfl) (by kernel_rfl) (by kernel_rfl) (fun _ _ _ h => h) (Or.inl ⟨by rfl, ?_⟩) (by assumption) ?_; rotate_left; (focus (intro w hSw; (try dsimp only at hSw); go_simp; (try with_reducible rfl); done)); (try simp only [put_rules]))
    (refine wpAnyH_take (i := 3) (v := ?_) rfl (by kernel_rfl) (by kernel_rfl) (by kernel_rfl) (fun _ _ _ h => h) (Or.inl ⟨by rfl, ?_⟩) (by assumption) ?_; rotate_left; (focus (intro w hSw; (try dsimp only at hSw); go_simp; (try with_reducible rfl); done)); (try simp only [put_rules]))
    (refine wpAnyH_take (i := 4) (v := ?_) rfl (by kernel_rfl) (by kernel_rfl) (by kernel_rfl) (fun _ _ _ h => h) (Or.inl ⟨by rfl, ?_⟩) (by assumption) ?_; rotate_left; (focus (intro w hSw; (try dsimp only at hSw); go_simp; (try with_reducible rfl); done)); (try simp only [put_rules]))
    (refine wpAnyH_take (i := 5) (v := ?_) rfl (by kernel_rfl) (by kernel_rfl) (by kernel_rfl) (fun _ _ _ h => h) (Or.inl ⟨by rfl, ?_⟩) (by assumption) ?_; rotate_left; (focus (intro w hSw; (try dsimp only at hSw); go_simp; (try with_reducible rfl); done)); (try simp only [put_rules]))
    (refine wpAnyH_take (i := 6) (v := ?_) rfl (by kernel_rfl) (by kernel_rfl) (by kernel_rfl) (fun _ _ _ h => h) (Or.inl ⟨by rfl, ?_⟩) (by assumption) ?_; rotate_left; (focus (intro w hSw; (try dsimp only at hSw); go_simp; (try with_reducible rfl); done)); (try simp only [put_rules]))
    (refine wpAnyH_take (i := 7) (v := ?_) rfl (by kernel_rfl) (by kernel_rfl) (by kernel_rfl) (fun _ _ _ h => h) (Or.inl ⟨by rfl, ?_⟩) (by assumption) ?_; rotate_left; (focus (intro w hSw; (try dsimp only at hSw); go_simp; (try with_reducible rfl); done)); (try simp only [put_rules]))
    (refine wpAnyH_ready (rs := [8]) (by kernel_rfl) (by simp) ?_; refine AllReadyH.cons rfl (fun K hK => ?_) AllReadyH.nil)
    go_simp
    have S4 := Lib.hid (S3.out.alloc_box #[.int .i64 0, .int .i64 0, .int .i64 0] 41)
    have hgs : gb < w.heap.size + 1 := by have := World.block_lt_of_cell? _ _ m0; simpa using this
    have hcells : ∀ W, Below (w.heap.size + 1) (w.alloc (.cells #[.int .i64 4, .int .i64 (m : Int), .int .i64 b] 41)) W → W.cell? ⟨gb, off + m * 3, none⟩ = some (.int .i64 qk) ∧ W.cell? ⟨gb, off + m * 3 + 1, none⟩ = some (.int .i64 qa) ∧ W.cell? ⟨gb, off + m * 3 + 2, none⟩ = some (.int .i64 qb) := fun W h =>
      ⟨(h.cell (p := ⟨gb, off + m * 3, none⟩) hgs).trans m0, (h.cell (p := ⟨gb, off + m * 3 + 1, none⟩) hgs).trans m1, (h.cell (p := ⟨gb, off + m * 3 + 2, none⟩) hgs).trans m2⟩
    replace hcells := Lib.hid hcells
    refine hK.out _ _ ?_ (fun hS2 => ?_)
    · refine ⟨S4.out.cell (i := 2) rfl (o := 0) rfl, S4.out.cell (i := 1) rfl (o := 1) rfl, hcells.out _ ?_⟩
      have hB := bal (bdr (bb (w.alloc (.cells #[.int .i64 4, .int .i64 (m : Int), .int .i64 b] 41)))) (.cells #[.int .i64 0, .int .i64 0, .int .i64 0] 41)
      rw [World.size_alloc] at hB
      first | exact hB | exact bal (bb _) _
    clear hK hSc
    (try simp only [put_rules])
    have z0 := S4.out.cell (i := 0) rfl (o := 0) rfl
    have z1 := S4.out.cell (i := 0) rfl (o := 1) rfl
    have z2 := S4.out.cell (i := 0) rfl (o := 2) rfl
    have v0 := S4.out.frozen (i := 0) rfl 0
    have v1 := S4.out.frozen (i := 0) rfl 1
    have v2 := S4.out.frozen (i := 0) rfl 2
    (refine wpAnyH_ready (rs := [9]) (by kernel_rfl) (by simp) ?_; refine AllReadyH.cons rfl (fun K hK => ?_) AllReadyH.nil)
    go_simp
    have S5 := (S3.out.alloc_box #[.int .i64 qk, .int .i64 qa, .int .i64 qb] 41).drew
    have hB5 := bdr (bal (bb (w.alloc (.cells #[.int .i64 4, .int .i64 (m : Int), .int .i64 b] 41))) (.cells #[.int .i64 qk, .int .i64 qa, .int .i64 qb] 41))
    rw [World.size_alloc] at hB5
    have hc5 := hcells.out _ hB5
    refine hK.out _ _ ?_ (fun _ => ?_)
    · exact ⟨S5.cell (i := 2) rfl (o := 0) rfl, S5.cell (i := 1) rfl (o := 1) rfl, hc5⟩
    clear hK S4 z0 z1 z2 v0 v1 v2 hcells
    (try simp only [put_rules])
    (refine wpAnyH_done (by kernel_rfl) ?_ _)
    simp only [World.size_alloc] at S5
    have k0 := S5.cell (i := 0) rfl (o := 0) rfl
    have k1 := S5.cell (i := 0) rfl (o := 1) rfl
    have S6 := Lib.hid S5.tail.tail
    replace S5 := Lib.hid S5
    clear S3 hc5 hB5 g1 e0 m0 m1 m2
    by_cases q2 : qk = 2
    · subst q2
      rw [if_pos rfl] at hP
      have hc := Lib.hid (hk3.out _ S6.out)
      rw [← hP.out] at hc
      clear hP S5 S6 hk2 hk3 hk4
      go_wp2_with fail
      refine hc.out.mono ?_
      rintro e w5 ⟨sv', rfl, HS5⟩
      replace HS5 := Lib.hid HS5
      clear hc
      go_wp2_with fail
      go_ret
      first | exact ⟨rfl, sv', HS5.out⟩ | exact ⟨sv', rfl, HS5.out⟩
    rw [if_neg q2] at hP
    by_cases q3 : qk = 3
    · subst q3
      rw [if_pos rfl] at hP
      have hc := Lib.hid (hk2.out _ S6.out)
      rw [← hP.out] at hc
      clear hP S5 S6 hk2 hk3 hk4
      go_wp2_with fail
      refine hc.out.mono ?_
      rintro e w5 ⟨sv', rfl, HS5⟩
      replace HS5 := Lib.hid HS5
      clear hc
      go_wp2_with fail
      go_ret
      first | exact ⟨rfl, sv', HS5.out⟩ | exact ⟨sv', rfl, HS5.out⟩
    rw [if_neg q3] at hP
    by_cases q4 : qk = 4
    · subst q4
      rw [if_pos rfl] at hP
      have hqa : ((qa.toNat : Nat) : Int) = qa := by have := hma.out; omega
      obtain ⟨r, rfl⟩ : ∃ r : Nat, qa = r := ⟨qa.toNat, hqa.symm⟩
      rw [Int.toNat_natCast] at hP
      have hR := hP.out
      subst hR
      clear hP hk2 hk3 hk4 hqa hma
      go_wp2_with fail
      go_ret
      first | exact ⟨rfl, _, S6.out⟩ | exact ⟨_, rfl, S6.out⟩
    rw [if_neg q4] at hP
    have hc := Lib.hid (hk4.out _ S6.out)
    rw [← hP.out] at hc
    clear hP S5 S6 hk2 hk3 hk4
    go_wp2_with fail
    refine hc.out.mono ?_
    rintro e w5 ⟨sv', rfl, HS5⟩
    replace HS5 := Lib.hid HS5
    clear hc
    go_wp2_with fail
    go_ret
    first | exact ⟨rfl, sv', HS5.out⟩ | exact ⟨sv', rfl, HS5.out⟩
  by_cases h5 : k = 5
  · subst h5
    rw [if_neg h4, if_pos rfl] at hP
    have hc := Lib.hid (pair_any p sv M ⟨5, a, b⟩ 3 2 _ hok hl (by dsimp only; omega) (by dsimp only; omega) S3.tail)
    rw [← hP] at hc
    clear hP S3 HS hgi hg hM hok
    go_enter Try.func88, Try.ntmps88
    go_wp2_with fail
    refine hc.out.mono ?_
    rintro e w5 ⟨sv', rfl, HS5⟩
    replace HS5 := Lib.hid HS5
    go_wp2_with fail
    go_ret
    first | exact ⟨rfl, sv', HS5.out⟩ | exact ⟨sv', rfl, HS5.out⟩
  by_cases h6 : k = 6
  · subst h6
    rw [if_neg h4, if_neg h5, if_pos rfl] at hP
    have hc := Lib.hid (pair_any p sv M ⟨6, a, b⟩ 2 3 _ hok hl (by dsimp only; omega) (by dsimp only; omega) S3.tail)
    rw [← hP] at hc
    clear hP S3 HS hgi hg hM hok
    go_enter Try.func88, Try.ntmps88
    go_wp2_with fail
    refine hc.out.mono ?_
    rintro e w5 ⟨sv', rfl, HS5⟩
    replace HS5 := Lib.hid HS5
    go_wp2_with fail
    go_ret
    first | exact ⟨rfl, sv', HS5.out⟩ | exact ⟨sv', rfl, HS5.out⟩
  rw [if_neg h4, if_neg h5, if_neg h6] at hP
  have hc := Lib.hid (keep_any p sv M ⟨k, a, b⟩ _ hok hl S3.tail)
  rw [← hP] at hc
  clear hP S3 HS hgi hg hM hok
  go_enter Try.func88, Try.ntmps88
  go_wp2_with fail
  refine hc.out.mono ?_
  rintro e w5 ⟨sv', rfl, HS5⟩
  replace HS5 := Lib.hid HS5
  go_wp2_with fail
  go_ret
  first | exact ⟨rfl, sv', HS5.out⟩ | exact ⟨sv', rfl, HS5.out⟩
end Go.Proofs.Ytkhopkonddgicaa

/- Plain facts: pushing negations keeps the values. No program in sight. -/
namespace Go.Proofs.Ytkhopkonddgicaa

def dualK (k : Int) : Int := if k = 5 then 6 else if k = 6 then 5 else if k = 2 then 3 else if k = 3 then 2 else k
/-- The gates, and for each gate the number for its value and for the opposite one. -/
structure PSt where
  out : List Gt
  same : List Nat
  other : List Nat
def pushG (s : PSt) (g : Gt) : PSt :=
  if g.k = 4 then ⟨s.out, s.same ++ [s.other.getD g.a.toNat 0], s.other ++ [s.same.getD g.a.toNat 0]⟩
  else if g.k = 1 then ⟨s.out ++ [mvG (fun k => s.same.getD k 0) g] ++ [⟨4, (s.out.length : Nat), 0⟩], s.same ++ [s.out.length], s.other ++ [s.out.length + 1]⟩
  else ⟨s.out ++ [mvG (fun k => s.same.getD k 0) g] ++ [mvG (fun k => s.other.getD k 0) ⟨dualK g.k, g.a, g.b⟩], s.same ++ [s.out.length], s.other ++ [s.out.length + 1]⟩
def pushesG (gs : List Gt) : PSt := gs.foldl pushG ⟨[], [], []⟩
theorem pushes_snoc (gs : List Gt) (g : Gt) : pushesG (gs ++ [g]) = pushG (pushesG gs) g := by simp [pushesG]
structure PInv (vars : Int) (gs : List Gt) (s : PSt) : Prop where
  n1 : s.same.length = gs.length
  n2 : s.other.length = gs.length
  len : s.out.length ≤ 2 * gs.length
  ok : OkG vars s.out
  lt1 : ∀ i, i < gs.length → s.same.getD i 0 < s.out.length
  lt2 : ∀ i, i < gs.length → s.other.getD i 0 < s.out.length
  val1 : ∀ i, i < gs.length → ∀ bits, gval bits s.out (s.same.getD i 0) = gval bits gs i
  val2 : ∀ i, i < gs.length → ∀ bits, gval bits s.out (s.other.getD i 0) = !gval bits gs i
theorem getD_old {l : List Nat} {r i n : Nat} (hn : l.length = n) (hi : i < n) : (l ++ [r]).getD i 0 = l.getD i 0 := by
  rw [List.getD_eq_getElem?_getD, List.getElem?_append_left (by omega), ← List.getD_eq_getElem?_getD]
theorem getD_new {l : List Nat} {r n : Nat} (hn : l.length = n) : (l ++ [r]).getD n 0 = r := by
  rw [List.getD_eq_getElem?_getD, ← hn, List.getElem?_concat_length]; rfl
/-- One gate more. -/
theorem PInv.more {vars : Int} {gs : List Gt} {g : Gt} {s : PSt} {out' : List Gt} {a b : Nat} (h : PInv vars gs s) (hp : ∃ ms, out' = s.out ++ ms) (hl : out'.length ≤ s.out.length + 2) (hok : OkG vars out') (ha : a < out'.length) (hb : b < out'.length)
    (va : ∀ bits, gval bits out' a = gval bits (gs ++ [g]) gs.length) (vb : ∀ bits, gval bits out' b = !gval bits (gs ++ [g]) gs.length) : PInv vars (gs ++ [g]) ⟨out', s.same ++ [a], s.other ++ [b]⟩ := by
  obtain ⟨ms, rfl⟩ := hp
  have n1 := h.n1
  have n2 := h.n2
  have hlen := h.len
  refine ⟨by simp; omega, by simp; omega, by dsimp only; rw [show (gs ++ [g]).length = gs.length + 1 by simp]; omega, hok, fun i hi => ?_, fun i hi => ?_, fun i hi bits => ?_, fun i hi bits => ?_⟩
  all_goals
    rw [List.length_append, List.length_singleton] at hi
    dsimp only
    by_cases e : i < gs.length
  · rw [getD_old n1 e, List.length_append]; have := h.lt1 i e; omega
  · obtain rfl : i = gs.length := by omega
    rw [getD_new n1]; exact ha
  · rw [getD_old n2 e, List.length_append]; have := h.lt2 i e; omega
  · obtain rfl : i = gs.length := by omega
    rw [getD_new n2]; exact hb
  · rw [getD_old n1 e, gval_pre (h.lt1 i e), gval_snoc e]; exact h.val1 i e bits
  · obtain rfl : i = gs.length := by omega
    rw [getD_new n1]; exact va bits
  · rw [getD_old n2 e, gval_pre (h.lt2 i e), gval_snoc e]; exact h.val2 i e bits
  · obtain rfl : i = gs.length := by omega
    rw [getD_new n2]; exact vb bits
theorem ins_dual (g : Gt) : insG ⟨dualK g.k, g.a, g.b⟩ = insG g := by
  unfold insG dualK
  dsimp only
  by_cases h5 : g.k = 5
  · simp [h5]
  by_cases h6 : g.k = 6
  · simp [h6]
  by_cases h2 : g.k = 2
  · simp [h2]
  by_cases h3 : g.k = 3
  · simp [h3]
  simp [h5, h6, h2, h3]
theorem dual_ok {vars : Int} {i : Nat} {g : Gt} (h : gtB vars i g = true) (h1 : g.k ≠ 1) (h4 : g.k ≠ 4) : gtB vars i ⟨dualK g.k, g.a, g.b⟩ = true := by
  rw [gtB_iff] at h ⊢
  unfold dualK
  dsimp only
  by_cases h5 : g.k = 5
  · rw [if_pos h5]; omega
  by_cases h6 : g.k = 6
  · rw [if_neg h5, if_pos h6]; omega
  by_cases h2 : g.k = 2
  · rw [if_neg h5, if_neg h6, if_pos h2]; omega
  by_cases h3 : g.k = 3
  · rw [if_neg h5, if_neg h6, if_neg h2, if_pos h3]; omega
  omega
theorem dual_val {vars : Int} {i bits : Nat} {g : Gt} {p q : Nat → Bool} (h : gtB vars i g = true) (h1 : g.k ≠ 1) (h4 : g.k ≠ 4) (hpq : ∀ k ∈ insG g, p k = !q k) : gv bits p ⟨dualK g.k, g.a, g.b⟩ = !gv bits q g := by
  rw [gtB_iff] at h
  unfold insG at hpq
  have hk : g.k = 2 ∨ g.k = 3 ∨ g.k = 5 ∨ g.k = 6 := by omega
  rcases hk with hk | hk | hk | hk
  · simp [gv, dualK, hk]
  · simp [gv, dualK, hk]
  · simp only [hk] at hpq
    simp [gv, dualK, hk, hpq]
  · simp only [hk] at hpq
    simp [gv, dualK, hk, hpq]
theorem pinv_snoc {vars : Int} {gs : List Gt} {g : Gt} {s : PSt} (h : PInv vars gs s) (hg : gtB vars gs.length g = true) : PInv vars (gs ++ [g]) (pushG s g) := by
  have hlt := ins_lt hg
  have hv : ∀ bits, gval bits (gs ++ [g]) gs.length = gv bits (gval bits gs) g := fun bits => gval_new bits gs g
  unfold pushG
  by_cases h4 : g.k = 4
  · rw [if_pos h4]
    have hia : g.a.toNat < gs.length := hlt _ (by unfold insG; rw [if_pos h4]; exact List.mem_singleton.2 rfl)
    have hgv : ∀ bits, gv bits (gval bits gs) g = !gval bits gs g.a.toNat := fun bits => by simp [gv, h4]
    exact h.more ⟨[], by simp⟩ (by omega) h.ok (h.lt2 _ hia) (h.lt1 _ hia) (fun bits => by rw [hv, hgv]; exact h.val2 _ hia bits) (fun bits => by rw [hv, hgv, Bool.not_not]; exact h.val1 _ hia bits)
  rw [if_neg h4]
  have hm : gtB vars s.out.length (mvG (fun k => s.same.getD k 0) g) = true := mv_ok hg fun k hk => h.lt1 k (hlt k hk)
  have hok1 := h.ok.snoc hm
  have hl1 : (s.out ++ [mvG (fun k => s.same.getD k 0) g]).length = s.out.length + 1 := by simp
  have hv1 : ∀ bits, gval bits (s.out ++ [mvG (fun k => s.same.getD k 0) g]) s.out.length = gv bits (gval bits gs) g := fun bits => by
    rw [gval_new]; exact mv_val fun k hk => h.val1 k (hlt k hk) bits
  by_cases h1 : g.k = 1
  · rw [if_pos h1]
    have hn : gtB vars (s.out ++ [mvG (fun k => s.same.getD k 0) g]).length ⟨4, (s.out.length : Nat), 0⟩ = true := by rw [hl1, gtB_iff]; dsimp only; omega
    refine h.more ⟨[mvG (fun k => s.same.getD k 0) g, ⟨4, (s.out.length : Nat), 0⟩], by simp⟩ (by simp) (hok1.snoc hn) (by simp) (by simp) (fun bits => ?_) (fun bits => ?_)
    · rw [gval_snoc (by omega), hv1, hv]
    · have := gval_new bits (s.out ++ [mvG (fun k => s.same.getD k 0) g]) ⟨4, (s.out.length : Nat), 0⟩
      rw [hl1] at this
      rw [this, hv, ← hv1]; simp [gv]
  · rw [if_neg h1]
    have hd : gtB vars (s.out ++ [mvG (fun k => s.same.getD k 0) g]).length (mvG (fun k => s.other.getD k 0) ⟨dualK g.k, g.a, g.b⟩) = true := by
      refine mv_ok (dual_ok hg h1 h4) fun k hk => ?_
      rw [ins_dual] at hk
      rw [hl1]
      have := h.lt2 k (hlt k hk)
      omega
    refine h.more ⟨[mvG (fun k => s.same.getD k 0) g, mvG (fun k => s.other.getD k 0) ⟨dualK g.k, g.a, g.b⟩], by simp⟩ (by simp) (hok1.snoc hd) (by simp) (by simp) (fun bits => ?_) (fun bits => ?_)
    · rw [gval_snoc (by omega), hv1, hv]
    · have := gval_new bits (s.out ++ [mvG (fun k => s.same.getD k 0) g]) (mvG (fun k => s.other.getD k 0) ⟨dualK g.k, g.a, g.b⟩)
      rw [hl1] at this
      rw [this, hv]
      rw [mv_val (q := fun k => !gval bits gs k) fun k hk => ?_]
      · exact dual_val hg h1 h4 fun k _ => rfl
      · rw [ins_dual] at hk
        rw [gval_snoc (h.lt2 k (hlt k hk))]
        exact h.val2 k (hlt k hk) bits
theorem pinv {vars : Int} : ∀ (gs : List Gt), OkG vars gs → PInv vars gs (pushesG gs) := by
  intro gs
  induction gs using snoc_ind with
  | h0 => intro _; exact ⟨rfl, rfl, Nat.le_refl _, fun i hi => absurd hi (by simp [pushesG]), fun i hi => absurd hi (by simp), fun i hi => absurd hi (by simp), fun i hi => absurd hi (by simp), fun i hi => absurd hi (by simp)⟩
  | h1 gs g ih =>
    intro h
    have h1 : OkG vars gs := by
      have := h.take gs.length
      rwa [List.take_left] at this
    have h2 : gtB vars gs.length g = true := by
      have := h gs.length (by simp)
      rwa [List.getElem_concat_length rfl] at this
    rw [pushes_snoc]
    exact pinv_snoc (ih h1) h2
end Go.Proofs.Ytkhopkonddgicaa

/- Contracts: the dual kind; the closures that look a number up. -/
namespace Go.Proofs.Ytkhopkonddgicaa
open Go.RowKit

theorem dualKind_any (k : Int) (w : World) : Calls Try.prog 53 #[.int .i64 k] w fun e w' => e = .returned (.int .i64 (dualK k)) ∧ w = w' := by
  unfold dualK
  by_cases h5 : k = 5
  · subst h5
    go_enter Try.func53, Try.ntmps53
    go_wp2_with fail
    go_ret
    exact ⟨rfl, rfl⟩
  by_cases h6 : k = 6
  · subst h6
    go_enter Try.func53, Try.ntmps53
    go_wp2_with fail
    go_ret
    exact ⟨rfl, rfl⟩
  by_cases h2 : k = 2
  · subst h2
    go_enter Try.func53, Try.ntmps53
    go_wp2_with fail
    go_ret
    exact ⟨rfl, rfl⟩
  by_cases h3 : k = 3
  · subst h3
    go_enter Try.func53, Try.ntmps53
    go_wp2_with fail
    go_ret
    exact ⟨rfl, rfl⟩
  rw [if_neg h5, if_neg h6, if_neg h2, if_neg h3]
  go_enter Try.func53, Try.ntmps53
  go_wp2_with fail
  go_ret
  exact ⟨rfl, rfl⟩

theorem foldLook_any (b g n c k : Nat) (x : Int) (hk : k < n) (w : World) (h0 : w.cell? ⟨b, 0, none⟩ = some (.slice (some ⟨g, 0, none⟩) n c)) (h1 : w.cell? ⟨g, k, none⟩ = some (.int .i64 x)) :
    Calls Try.prog 89 #[.int .i64 k, .pointer (some ⟨b, 0, none⟩)] w fun e w' => e = .returned (.int .i64 x) ∧ Below w.heap.size w w' := by
  have hkl : (k : Int) < n := by omega
  go_enter Try.func89, Try.ntmps89
  go_wp2_with fail
  go_ret
  exact ⟨rfl, bb _⟩

theorem sameLook_any (b g n c k : Nat) (x : Int) (hk : k < n) (w : World) (h0 : w.cell? ⟨b, 0, none⟩ = some (.slice (some ⟨g, 0, none⟩) n c)) (h1 : w.cell? ⟨g, k, none⟩ = some (.int .i64 x)) :
    Calls Try.prog 52 #[.int .i64 k, .pointer (some ⟨b, 0, none⟩)] w fun e w' => e = .returned (.int .i64 x) ∧ Below w.heap.size w w' := by
  have hkl : (k : Int) < n := by omega
  go_enter Try.func52, Try.ntmps52
  go_wp2_with fail
  go_ret
  exact ⟨rfl, bb _⟩

theorem otherLook_any (b g n c k : Nat) (x : Int) (hk : k < n) (w : World) (h0 : w.cell? ⟨b, 0, none⟩ = some (.slice (some ⟨g, 0, none⟩) n c)) (h1 : w.cell? ⟨g, k, none⟩ = some (.int .i64 x)) :
    Calls Try.prog 54 #[.int .i64 k, .pointer (some ⟨b, 0, none⟩)] w fun e w' => e = .returned (.int .i64 x) ∧ Below w.heap.size w w' := by
  have hkl : (k : Int) < n := by omega
  go_enter Try.func54, Try.ntmps54
  go_wp2_with fail
  go_ret
  exact ⟨rfl, bb _⟩
end Go.Proofs.Ytkhopkonddgicaa

/- Contract: the folded circuit. -/
namespace Go.Proofs.Ytkhopkonddgicaa
open Go.RowKit

/-- Numbers that fill a block. -/
def numsA (n : Nat) (f : Nat → Nat) : Array Value := ((List.range n).map fun j => Value.int .i64 (f j : Nat)).toArray
theorem numsA_get {n m : Nat} {f : Nat → Nat} (h : m < n) : (numsA n f)[m]? = some (.int .i64 (f m : Nat)) := by simp [numsA, h]
theorem numsA_congr {n : Nat} {f g : Nat → Nat} (h : ∀ j, j < n → f j = g j) : numsA n f = numsA n g := by
  unfold numsA
  congr 1
  exact List.map_congr_left fun j hj => by rw [h j (List.mem_range.1 hj)]
theorem numsA_set (n m : Nat) (f : Nat → Nat) (x : Nat) : (numsA n f).setIfInBounds m (.int .i64 x) = numsA n (fun j => if j = m then x else f j) := by
  unfold numsA
  rw [List.setIfInBounds_toArray]
  congr 1
  apply List.ext_getElem?
  intro j
  rw [List.getElem?_set]
  by_cases hj : j < n
  · by_cases e : m = j
    · subst e; simp [hj]
    · simp [hj, e, Ne.symm e]
  · simp [hj]
    intro e
    omega
theorem numsA_made (n : Nat) : madeCells #[.int .i64 0] n = numsA n (fun _ => 0) := by
  apply Array.ext'
  rw [toList_madeCells_one]
  unfold numsA
  apply List.ext_getElem?
  intro j
  by_cases h : j < n
  · simp [h]
  · simp [h]

set_option maxRecDepth 100000 in
theorem mk_nums (k : Nat) (hk : k ≤ 1000000) (x : Int) (hx : x = k) (w : World) :
    (Instr.makeSlice 45 (.int .i64 x) (.int .i64 x)).run Try.prog w = .ok (.slice (some ⟨w.heap.size, 0, none⟩) k k) (w.alloc (.cells (numsA k fun _ => 0) 3)) := by
  obtain ⟨i, hi, h1, h2, h3⟩ : ∃ i, Try.prog.info? 3 = some i ∧ i.zero = some (.int .i64 0) ∧ i.size = 1 ∧ i.bytes = 8 := ⟨_, rfl, by kernel_rfl, by kernel_rfl, by kernel_rfl⟩
  subst hx
  have := run_make w 45 3 i (.int .i64 0) Try.underlying45 hi h1 .i64 .i64 (k : Int) (k : Int) (by omega) (by omega) (by rw [h3]; omega) (by omega)
  rw [h2] at this
  rw [← numsA_made]
  simpa [Value.cells] using this

/-- What the kept gates are cut to. -/
def cutK (s : List Gt × List Nat) (n : Nat) : List Gt := s.1.take (s.2.getD (n - 1) 0 + 1)
/-- The folded circuit. -/
def foldR (gs : List Gt) : List Gt := trimG (cutK (foldsG gs) gs.length) (needL (cutK (foldsG gs) gs.length))
theorem own_cap {w : World} {B : Nat} {e : TypeId} {n c size : Nat} {A : Option Addr} {cs : List Value} (h : w.ownsRow B e size (.slice A n c) n cs) : n ≤ c := by
  obtain ⟨_, ⟨e1, h0⟩ | ⟨g, cap, cur, e1, _, _, hc, _⟩⟩ := h
  · cases e1; omega
  · cases e1; omega

/-- What lies in memory while gates are folded. -/
abbrev FcSp (w : World) (n : Nat) (s : List Gt × List Nat) (sv : Value) (W : World) : Prop :=
  Sp w W [Box w.heap.size 91 #[sv], Own 41 3 sv s.1.length (s.1.flatMap gtEnc), Box (w.heap.size + 1) 3 (numsA n (fun j => s.2.getD j 0)), Box (w.heap.size + 1 + 1) 45 #[.slice (some ⟨w.heap.size + 1, 0, none⟩) n n]]
theorem folds_take {gs : List Gt} {q : Nat} (h : q < gs.length) : foldsG (gs.take (q + 1)) = ((foldG (foldsG (gs.take q)).1 (mvG (fun k => (foldsG (gs.take q)).2.getD k 0) gs[q])).1, (foldsG (gs.take q)).2 ++ [(foldG (foldsG (gs.take q)).1 (mvG (fun k => (foldsG (gs.take q)).2.getD k 0) gs[q])).2]) := by
  rw [List.take_succ_eq_append_getElem h, folds_snoc]

set_option maxRecDepth 100000 in
set_option maxHeartbeats 16000000 in
theorem foldCircuit_any {vars : Int} (A : Option Addr) (c : Nat) (gs : List Gt) (w : World) (hx : GtAt w A gs) (hg : OkG vars gs) (hp : 0 < gs.length) (hl : gs.length ≤ 1000) (hv : vars ≤ 1000) :
    Calls Try.prog 48 #[.slice A gs.length c] w fun e w' => ∃ v, e = .returned v ∧ Sp w w' [Own 41 3 v (foldR gs).length ((foldR gs).flatMap gtEnc)] := by
  have hmk := fun W => mk_nums gs.length (by omega) (gs.length : Int) rfl W
  obtain ⟨Z, hZ⟩ : ∃ Z, numsA gs.length (fun _ => 0) = Z := ⟨_, rfl⟩
  rw [hZ] at hmk
  have S1 := (((Sp.start w).alloc_box #[.slice none 0 0] 91).alloc_box Z 3).alloc_box #[.slice (some ⟨w.heap.size + 1, 0, none⟩) gs.length gs.length] 45
  simp only [World.size_alloc] at S1
  have S2 := (S1.own_nil 41 3).pick [3, 0, 1, 0] rfl
  have hZ2 : numsA gs.length (fun j => (foldsG (gs.take 0)).2.getD j 0) = Z := by
    rw [← hZ]
    exact numsA_congr fun j _ => by simp [foldsG]
  replace hZ2 := Lib.hid hZ2
  replace S2 := Lib.hid S2
  have eg : Enter1 89 := enters_of Try.func89 (by kernel_rfl) rfl
  replace eg := Lib.hid eg
  have hX := Lib.hid hx
  replace hg := Lib.hid hg
  clear S1 hZ hx
  go_enter Try.func48, Try.ntmps48
  go_wp2_with fail
  go_loopw [14] (fun i wr => ∃ (q : Nat) (sv : Value), q ≤ gs.length ∧ i = .int .i64 q ∧ Hid (FcSp w gs.length (foldsG (gs.take q)) sv wr)) (fun i _ => gs.length - (intOf i).toNat)
  case atStart =>
    refine ⟨0, .slice none 0 0, Nat.zero_le _, rfl, ?_⟩
    unfold Hid FcSp
    rw [hZ2.out]
    exact S2.out
  case round =>
    obtain ⟨q, sv, hq, rfl, hS⟩ := hrel
    by_cases hlt : q < gs.length
    · have hqi : (q : Int) < gs.length := by omega
      have hF := finv (gs.take q) (hg.out.take q)
      have hst := folds_take hlt
      have hX2 := hX.out.grow hS.out.below
      obtain ⟨bg, og, e, m0, m1, m2⟩ := hX2.at_ q hlt
      cases e
      have hgq := hg.out q hlt
      have hlt2 := ins_lt hgq
      have hgi := gtB_iff.1 hgq
      have hl2 : (gs.take q).length = q := by rw [List.length_take]; omega
      generalize foldsG (gs.take q) = s at hS hF hst
      obtain ⟨M, B⟩ := s
      generalize gs[q] = g at m0 m1 m2 hst hgq hlt2 hgi
      dsimp only at hst
      have hFn := hF.n
      have hFl := hF.len
      have hFt := hF.lt
      have hFo := hF.ok
      rw [hl2] at hFn hFl hFt
      dsimp only at hFn hFl hFt hFo
      unfold FcSp at hS
      dsimp only at hS
      have S3 := hS.out.alloc_box #[.int .i64 g.k, .int .i64 g.a, .int .i64 g.b] 41
      have d0 := S3.cell (i := 0) rfl (o := 0) rfl
      have d1 := S3.cell (i := 0) rfl (o := 1) rfl
      have d2 := S3.cell (i := 0) rfl (o := 2) rfl
      have d4 := S3.cell (i := 4) rfl (o := 0) rfl
      replace S3 := S3.drew
      have d5 := S3.cell (i := 4) rfl (o := 0) rfl
      have hmv := Lib.hid (moved_any (cb := #[.pointer (some ⟨w.heap.size + 1 + 1, 0, none⟩)]) eg.out (fun k => B.getD k 0) g (fun k hk => by have := hlt2 k hk; omega) (by omega) (by omega) _ (fun k hk W hW => foldLook_any (w.heap.size + 1 + 1) (w.heap.size + 1) gs.length gs.length k ((B.getD k 0 : Nat) : Int) (by have := hlt2 k hk; omega) W ((hW.cell (p := ⟨w.heap.size + 1 + 1, 0, none⟩) (S3.box (i := 4) rfl).2.1).trans d5) ((hW.cell (p := ⟨w.heap.size + 1, k, none⟩) (S3.box (i := 3) rfl).2.1).trans (S3.cell (i := 3) rfl (o := k) (numsA_get (by have := hlt2 k hk; omega))))))
      have hmg : gtB vars M.length (mvG (fun k => B.getD k 0) g) = true := mv_ok hgq fun k hk => hFt k (hlt2 k hk)
      generalize mvG (fun k => B.getD k 0) g = z at hmv hst hmg
      have hfo := Lib.hid (fun W ps h => fold_any (w0 := w) (ps := ps) w.heap.size sv M z W (gt_small hFo hv (by omega)) hFo (by omega) hmg h)
      generalize foldG M z = r at hst hfo
      obtain ⟨M', rr⟩ := r
      dsimp only at hst hfo
      replace hst := Lib.hid hst
      replace S3 := Lib.hid S3
      obtain ⟨gk, ga, gb⟩ := g
      dsimp only at m0 m1 m2 d0 d1 d2
      clear d5 hF hS hX2 hgi hlt2 hmg hFo hFt hgq S2 hZ2
      go_wp2_with fail
      refine wp_region_held_lit (S := (fun w' => w'.cell? ⟨w.heap.size + 1 + 1, 0, none⟩ = some (.slice (some ⟨w.heap.size + 1, 0, none⟩) gs.length gs.length) ∧ w'.cell? ⟨wr.heap.size, 0, none⟩ = some (.int .i64 gk) ∧ w'.cell? ⟨wr.heap.size, 1, none⟩ = some (.int .i64 ga) ∧ w'.cell? ⟨wr.heap.size, 2, none⟩ = some (.int .i64 gb))) 9 [false, false, false, false, false, false, false, false, false] (by kernel_rfl) (by kernel_rfl) (by kernel_rfl) ?_ ?_
      · exact ⟨d4, d0, d1, d2⟩
      intro hSc
      (refine wpAnyH_take (i := 0) (v := ?_) rfl (by kernel_rfl) (by kernel_rfl) (by kernel_rfl) (fun _ _ _ h => h) (Or.inl ⟨by rfl, ?_⟩) (by assumption) ?_; rotate_left; (focus (intro w hSw; (try dsimp only at hSw); go_simp; (try with_reducible rfl); done)); (try simp only [put_rules]))
      (refine wpAnyH_take (i := 1) (v := ?_) rfl (by kernel_rfl) (by kernel_rfl) (by kernel_rfl) (fun _ _ _ h => h) (Or.inl ⟨by rfl, ?_⟩) (by assumption) ?_; rotate_left; (focus (intro w hSw; (try dsimp only at hSw); go_simp; (try with_reducible rfl); done)); (try simp only [put_rules]))
      (refine wpAnyH_take (i := 2) (v := ?_) rfl (by kernel_rfl) (by kernel_rfl) (by kernel_rfl) (fun _ _ _ h => h) (Or.inl ⟨by rfl, ?_⟩) (by assumption) ?_; rotate_left; (focus (intro w hSw; (try dsimp only at hSw); go_simp; (try with_reducible rfl); done)); (try simp only [put_rules]))
      (refine wpAnyH_take (i := 3) (v := ?_) rfl (by kernel_rfl) (by kernel_rfl) (by kernel_rfl) (fun _ _ _ h => h) (Or.inl ⟨by rfl, ?_⟩) (by assumption) ?_; rotate_left; (focus (intro w hSw; (try dsimp only at hSw); go_simp; (try with_reducible rfl); done)); (try simp only [put_rules]))
      (refine wpAnyH_take (i := 4) (v := ?_) rfl (by kernel_rfl) (by kernel_rfl) (by kernel_rfl) (fun _ _ _ h => h) (Or.inl ⟨by rfl, ?_⟩) (by assumption) ?_; rotate_left; (focus (intro w hSw; (try dsimp only at hSw); go_simp; (try with_reducible rfl); done)); (try simp only [put_rules]))
      (refine wpAnyH_ready (rs := [5]) (by kernel_rfl) (by simp) ?_; refine AllReadyH.cons rfl (fun K hK => ?_) AllReadyH.nil)
      go_simp
      go_at_call 51
      refine hmv.out.mono ?_
      rintro e w2 ⟨rfl, hb2⟩
      have S4 := Lib.hid (S3.out.grow hb2)
      have hf2 := Lib.hid (hfo.out _ _ (S4.out.pick [1, 1, 0, 0, 0] rfl))
      clear hmv S3 hb2 hfo d0 d1 d2 d4 m0 m1 m2
      go_wp2_with fail
      refine hK.out _ _ ⟨S4.out.cell (i := 4) rfl (o := 0) rfl, S4.out.cell (i := 0) rfl (o := 0) rfl, S4.out.cell (i := 0) rfl (o := 1) rfl, S4.out.cell (i := 0) rfl (o := 2) rfl⟩ (fun hS2 => ?_)
      clear hK hSc S4
      (try simp only [put_rules])
      (refine wpAnyH_ready (rs := [6]) (by kernel_rfl) (by simp) ?_; refine AllReadyH.cons rfl (fun K hK => ?_) AllReadyH.nil)
      go_simp
      go_at_call 88
      refine hf2.out.mono ?_
      rintro e w3 ⟨sv', rfl, S5⟩
      unfold FoldSp at S5
      have t0 := S5.cell (i := 3) rfl (o := q) (numsA_get hlt)
      have t1 := S5.frozen (i := 3) rfl q
      replace S5 := Lib.hid S5
      clear hf2
      go_wp2_with fail
      refine hK.out _ _ ⟨S5.out.cell (i := 4) rfl (o := 0) rfl, S5.out.cell (i := 2) rfl (o := 0) rfl, S5.out.cell (i := 2) rfl (o := 1) rfl, S5.out.cell (i := 2) rfl (o := 2) rfl⟩ (fun hS3 => ?_)
      clear hK hS2
      (try simp only [put_rules])
      (refine wpAnyH_take (i := 7) (v := ?_) rfl (by kernel_rfl) (by kernel_rfl) (by kernel_rfl) (fun _ _ _ h => h) (Or.inl ⟨by rfl, ?_⟩) (by assumption) ?_; rotate_left; (focus (intro w hSw; (try dsimp only at hSw); go_simp; (try with_reducible rfl); done)); (try simp only [put_rules]))
      (refine wpAnyH_ready (rs := [8]) (by kernel_rfl) (by simp) ?_; refine AllReadyH.cons rfl (fun K hK => ?_) AllReadyH.nil)
      go_simp
      have S6 := S5.out.store (i := 3) rfl q (.int .i64 (rr : Nat))
      refine hK.out _ _ ⟨S6.cell (i := 4) rfl (o := 0) rfl, S6.cell (i := 2) rfl (o := 0) rfl, S6.cell (i := 2) rfl (o := 1) rfl, S6.cell (i := 2) rfl (o := 2) rfl⟩ (fun hS4 => ?_)
      have S7 := Lib.hid (S6.pick [0, 0, 1, 1] rfl)
      clear hK hS3 S5 S6 t0 t1
      (try simp only [put_rules])
      (refine wpAnyH_done (by kernel_rfl) ?_ _)
      clear hS4
      go_wp2_with fail
      go_roundw
      case rel =>
        refine ⟨q + 1, sv', by omega, by first | rfl | simp, ?_⟩
        unfold Hid FcSp
        rw [hst.out]
        have h := S7.out
        rw [numsA_set] at h
        rw [numsA_congr (g := fun j => (B ++ [rr]).getD j 0) (fun j _ => by
          by_cases e : j = q
          · subst e; rw [if_pos rfl, getD_new hFn]
          · rw [if_neg e]
            rcases Nat.lt_or_ge j q with h1 | h1
            · rw [getD_old hFn h1]
            · rw [List.getD_eq_getElem?_getD, List.getD_eq_getElem?_getD, List.getElem?_eq_none (by omega), List.getElem?_eq_none (by rw [List.length_append, List.length_singleton]; omega)])] at h
        exact h
      case measure => simp [intOf]; omega
    · obtain rfl : q = gs.length := by omega
      have hF := finv gs hg.out
      unfold FcSp at hS
      rw [List.take_length] at hS
      have hR : foldR gs = trimG (cutK (foldsG gs) gs.length) (needL (cutK (foldsG gs) gs.length)) := rfl
      unfold cutK at hR
      generalize foldsG gs = s at hS hF hR
      obtain ⟨M, B⟩ := s
      have hFl := hF.len
      have hFt := hF.lt (gs.length - 1) (by omega)
      have hFo := hF.ok
      dsimp only at hFl hFt hFo hR hS
      obtain ⟨aM, cM, e, hM⟩ := gt_own (hS.out.own (i := 1) rfl) (gt_small hFo hv (by omega))
      cases e
      have hcap := own_cap (hS.out.own (i := 1) rfl)
      obtain ⟨mb, mo, e, -, -, -⟩ := hM.at_ 0 (by omega)
      cases e
      obtain ⟨x, hx⟩ : ∃ x, B.getD (gs.length - 1) 0 = x := ⟨_, rfl⟩
      have t0 := hS.out.cell (i := 2) rfl (o := gs.length - 1) (numsA_get (by omega))
      rw [hx] at hFt hR t0
      obtain ⟨m, hm⟩ : ∃ m, gs.length - 1 = m := ⟨_, rfl⟩
      rw [hm] at t0
      have hmi : (m : Int) < gs.length := by omega
      have hw1 : IntKind.i64.wrap ((gs.length : Int) - 1) = (m : Int) := by rw [show (gs.length : Int) - 1 = m by omega]; exact IntWalk.i64_in _ (by omega)
      have hw2 : IntKind.i64.wrap ((x : Int) + 1) = ((x + 1 : Nat) : Int) := by rw [show (x : Int) + 1 = ((x + 1 : Nat) : Int) by omega]; exact IntWalk.i64_in _ (by omega)
      have hxc : (x : Int) + 1 ≤ cM := by omega
      have hx0 : (0 : Int) ≤ (x : Int) + 1 := by omega
      have htl : (M.take (x + 1)).length = x + 1 := by rw [List.length_take]; omega
      have htr := fun W (h : Below wr.heap.size wr W) => trim_any (some ⟨mb, mo, none⟩) cM (M.take (x + 1)) W ((hM.grow h).take (x + 1)) (hFo.take _) (by omega) (by omega) hv
      rw [htl, ← hR] at htr
      replace htr := Lib.hid htr
      have c0 := hS.out.cell (i := 0) rfl (o := 0) rfl
      have c1 := hS.out.cell (i := 3) rfl (o := 0) rfl
      replace hm := Lib.hid hm
      clear hF hFt hFo hR hM htl S2 hZ2
      go_wp2_with fail
      refine wp_region_held_lit (S := (fun w' => w'.cell? ⟨w.heap.size, 0, none⟩ = some (.slice (some ⟨mb, mo, none⟩) M.length cM) ∧ w'.cell? ⟨w.heap.size + 1 + 1, 0, none⟩ = some (.slice (some ⟨w.heap.size + 1, 0, none⟩) gs.length gs.length) ∧ w'.cell? ⟨w.heap.size + 1, m, none⟩ = some (.int .i64 (x : Int)))) 14 [false, false, false, false, false, false, false, false, false, false, false, false, false, false] (by kernel_rfl) (by kernel_rfl) (by kernel_rfl) ?_ ?_
      · exact ⟨c0, c1, t0⟩
      intro hSc
      (refine wpAnyH_take (i := 0) (v := ?_) rfl (by kernel_rfl) (by kernel_rfl) (by kernel_rfl) (fun _ _ _ h => h) (Or.inl ⟨by rfl, ?_⟩) (by assumption) ?_; rotate_left; (focus (intro w hSw; (try dsimp only at hSw); go_simp; (try with_reducible rfl); done)); (try simp only [put_rules]))
      (refine wpAnyH_take (i := 1) (v := ?_) rfl (by kernel_rfl) (by kernel_rfl) (by kernel_rfl) (fun _ _ _ h => h) (Or.inl ⟨by rfl, ?_⟩) (by assumption) ?_; rotate_left; (focus (intro w hSw; (try dsimp only at hSw); go_simp; (try with_reducible rfl); done)); (try simp only [put_rules]))
      (refine wpAnyH_take (i := 2) (v := ?_) rfl (by kernel_rfl) (by kernel_rfl) (by kernel_rfl) (fun _ _ _ h => h) (Or.inl ⟨by rfl, ?_⟩) (by assumption) ?_; rotate_left; (focus (intro w hSw; (try dsimp only at hSw); go_simp; (try with_reducible rfl); done)); (try simp only [put_rules]))
      (refine wpAnyH_take (i := 3) (v := ?_) rfl (by kernel_rfl) (by kernel_rfl) (by kernel_rfl) (fun _ _ _ h => h) (Or.inl ⟨by rfl, ?_⟩) (by assumption) ?_; rotate_left; (focus (intro w hSw; (try dsimp only at hSw); go_simp; (try with_reducible rfl); done)); (try simp only [put_rules]))
      (refine wpAnyH_take (i := 4) (v := ?_) rfl (by kernel_rfl) (by kernel_rfl) (by kernel_rfl) (fun _ _ _ h => h) (Or.inl ⟨by rfl, ?_⟩) (by assumption) ?_; rotate_left; (focus (intro w hSw; (try dsimp only at hSw); go_simp; (try with_reducible rfl); done)); (try simp only [put_rules]))
      (refine wpAnyH_take (i := 5) (v := ?_) rfl (by kernel_rfl) (by kernel_rfl) (by kernel_rfl) (fun _ _ _ h => h) (Or.inl ⟨by rfl, ?_⟩) (by assumption) ?_; rotate_left; (focus (intro w hSw; (try dsimp only at hSw); go_simp; (try with_reducible rfl); done)); (try simp only [put_rules]))
      (refine wpAnyH_take (i := 6) (v := ?_) rfl (by kernel_rfl) (by kernel_rfl) (by kernel_rfl) (fun _ _ _ h => h) (Or.inl ⟨by rfl, ?_⟩) (by assumption) ?_; rotate_left; (focus (intro w hSw; (try dsimp only at hSw); go_simp; (try with_reducible rfl); done)); (try simp only [put_rules]))
      (refine wpAnyH_take (i := 7) (v := ?_) rfl (by kernel_rfl) (by kernel_rfl) (by kernel_rfl) (fun _ _ _ h => h) (Or.inl ⟨by rfl, ?_⟩) (by assumption) ?_; rotate_left; (focus (intro w hSw; (try dsimp only at hSw); go_simp; (try with_reducible rfl); done)); (try simp only [put_rules]))
      (refine wpAnyH_take (i := 8) (v := ?_) rfl (by kernel_rfl) (by kernel_rfl) (by kernel_rfl) (fun _ _ _ h => h) (Or.inl ⟨by rfl, ?_⟩) (by assumption) ?_; rotate_left; (focus (intro w hSw; (try dsimp only at hSw); go_simp; (try with_reducible rfl); done)); (try simp only [put_rules]))
      (refine wpAnyH_take (i := 9) (v := ?_) rfl (by kernel_rfl) (by kernel_rfl) (by kernel_rfl) (fun _ _ _ h => h) (Or.inl ⟨by rfl, ?_⟩) (by assumption) ?_; rotate_left; (focus (intro w hSw; (try dsimp only at hSw); go_simp; (try with_reducible rfl); done)); (try simp only [put_rules]))
      (refine wpAnyH_take (i := 10) (v := ?_) rfl (by kernel_rfl) (by kernel_rfl) (by kernel_rfl) (fun _ _ _ h => h) (Or.inl ⟨by rfl, ?_⟩) (by assumption) ?_; rotate_left; (focus (intro w hSw; (try dsimp only at hSw); go_simp; (try with_reducible rfl); done)); (try simp only [put_rules]))
      (refine wpAnyH_take (i := 11) (v := ?_) rfl (by kernel_rfl) (by kernel_rfl) (by kernel_rfl) (fun _ _ _ h => h) (Or.inl ⟨by rfl, ?_⟩) (by assumption) ?_; rotate_left; (focus (intro w hSw; (try dsimp only at hSw); go_simp; (try with_reducible rfl); done)); (try simp only [put_rules]))
      have S3 := Lib.hid hS.out.drew
      have htr2 := Lib.hid (htr.out _ (bdr (bb wr)))
      clear htr hS c0 c1 t0
      (refine wpAnyH_ready (rs := [12]) (by kernel_rfl) (by simp) ?_; refine AllReadyH.cons rfl (fun K hK => ?_) AllReadyH.nil)
      go_simp
      go_at_call 55
      refine htr2.out.mono ?_
      rintro e w2 ⟨v, rfl, S4⟩
      have S5 := Lib.hid (S3.out.seq S4)
      clear htr2 S3 S4
      go_wp2_with fail
      refine hK.out _ _ ⟨S5.out.cell (i := 1) rfl (o := 0) rfl, S5.out.cell (i := 4) rfl (o := 0) rfl, by rw [← hx, ← hm.out]; exact S5.out.cell (i := 3) rfl (o := gs.length - 1) (numsA_get (by omega))⟩ (fun hS3 => ?_)
      clear hK hSc
      (try simp only [put_rules])
      (refine wpAnyH_take (i := 13) (v := ?_) rfl (by kernel_rfl) (by kernel_rfl) (by kernel_rfl) (fun _ _ _ h => h) (Or.inl ⟨by rfl, ?_⟩) (by assumption) ?_; rotate_left; (focus (intro w hSw; (try dsimp only at hSw); go_simp; (try with_reducible rfl); done)); (try simp only [put_rules]))
      (refine wpAnyH_done (by kernel_rfl) ?_ _)
      clear hS3
      go_wp2_with fail
      go_ret
      exact ⟨_, rfl, S5.out.pick [0] rfl⟩
end Go.Proofs.Ytkhopkonddgicaa

/- Contracts: circuits that are trimmed and folded. -/
namespace Go.Proofs.Ytkhopkonddgicaa
open Go.RowKit

/-- A circuit of its own and whether it is valid. -/
def GOut (w : World) (ok : Bool) (gs : List Gt) (e : Ending) (w' : World) : Prop :=
  ∃ v, e = .returned (.tuple #[v, .bool ok]) ∧ Sp w w' [Own 41 3 v (if ok then gs else []).length ((if ok then gs else []).flatMap gtEnc)]
theorem GOut.no {w w' : World} {gs : List Gt} (h : Below w.heap.size w w') : GOut w false gs (.returned (.tuple #[.slice none 0 0, .bool false])) w' := ⟨_, rfl, (Sp.of_below h).own_nil _ _⟩
theorem GOut.yes {w w' : World} {gs : List Gt} {v : Value} (h : Sp w w' [Own 41 3 v gs.length (gs.flatMap gtEnc)]) : GOut w true gs (.returned (.tuple #[v, .bool true])) w' := ⟨_, rfl, h⟩
theorem circ_vars {vars : Int} {gs : List Gt} (h : circB vars gs = true) : 0 ≤ vars ∧ vars ≤ 12 ∧ 0 < gs.length ∧ gs.length ≤ 200 ∧ OkG vars gs := by
  have h2 := h
  unfold circB at h2
  rw [Bool.and_eq_true, Bool.and_eq_true, inB_iff] at h2
  obtain ⟨n, rfl⟩ : ∃ n : Nat, vars = n := ⟨vars.toNat, by omega⟩
  have := circ_parts h
  refine ⟨by omega, by omega, this.2.1, this.2.2.1, this.2.2.2⟩

set_option maxRecDepth 100000 in
set_option maxHeartbeats 8000000 in
theorem foldM_any (vars : Int) (A : Option Addr) (c : Nat) (gs : List Gt) (w : World) (hx : GtAt w A gs) (hl : gs.length ≤ 1000) :
    Calls Try.prog 15 #[.int .i64 vars, .slice A gs.length c] w (GOut w (circB vars gs) (foldR gs)) := by
  have hc := isCircuit_any vars A c gs w hx (by omega)
  cases hq : circB vars gs
  · rw [hq] at hc
    replace hc := Lib.hid hc
    clear hx hq
    go_enter Try.func15, Try.ntmps15
    go_wp2_with fail
    refine hc.out.mono ?_
    rintro e w1 ⟨rfl, hb1⟩
    replace hb1 := Lib.hid hb1
    go_wp2_with fail
    go_ret2
    exact GOut.no hb1.out
  · rw [hq] at hc
    obtain ⟨-, hv, hp, -, hok⟩ := circ_vars hq
    have hf := Lib.hid (fun W (h : Below w.heap.size w W) => foldCircuit_any A c gs W (hx.grow h) hok hp hl (by omega))
    replace hc := Lib.hid hc
    clear hx hq hok
    go_enter Try.func15, Try.ntmps15
    go_wp2_with fail
    refine hc.out.mono ?_
    rintro e w1 ⟨rfl, hb1⟩
    have hf2 := Lib.hid (hf.out _ hb1)
    replace hb1 := Lib.hid (Sp.of_below hb1)
    clear hf hc
    go_wp2_with fail
    refine hf2.out.mono ?_
    rintro e w2 ⟨v, rfl, S2⟩
    have S3 := Lib.hid (hb1.out.seq S2)
    clear hf2 hb1 S2
    go_wp2_with fail
    go_ret2
    exact GOut.yes S3.out

set_option maxRecDepth 100000 in
set_option maxHeartbeats 8000000 in
theorem trimM_any (vars : Int) (A : Option Addr) (c : Nat) (gs : List Gt) (w : World) (hx : GtAt w A gs) (hl : gs.length ≤ 1000) :
    Calls Try.prog 19 #[.int .i64 vars, .slice A gs.length c] w (GOut w (circB vars gs) (trimG gs (needL gs))) := by
  have hc := isCircuit_any vars A c gs w hx (by omega)
  cases hq : circB vars gs
  · rw [hq] at hc
    replace hc := Lib.hid hc
    clear hx hq
    go_enter Try.func19, Try.ntmps19
    go_wp2_with fail
    refine hc.out.mono ?_
    rintro e w1 ⟨rfl, hb1⟩
    replace hb1 := Lib.hid hb1
    go_wp2_with fail
    go_ret2
    exact GOut.no hb1.out
  · rw [hq] at hc
    obtain ⟨-, hv, hp, -, hok⟩ := circ_vars hq
    have hf := Lib.hid (fun W (h : Below w.heap.size w W) => trim_any A c gs W (hx.grow h) hok hp hl (by omega))
    replace hc := Lib.hid hc
    clear hx hq hok
    go_enter Try.func19, Try.ntmps19
    go_wp2_with fail
    refine hc.out.mono ?_
    rintro e w1 ⟨rfl, hb1⟩
    have hf2 := Lib.hid (hf.out _ hb1)
    replace hb1 := Lib.hid (Sp.of_below hb1)
    clear hf hc
    go_wp2_with fail
    refine hf2.out.mono ?_
    rintro e w2 ⟨v, rfl, S2⟩
    have S3 := Lib.hid (hb1.out.seq S2)
    clear hf2 hb1 S2
    go_wp2_with fail
    go_ret2
    exact GOut.yes S3.out

end Go.Proofs.Ytkhopkonddgicaa

/- Contract: the circuit of a Cnf, in the program. -/
namespace Go.Proofs.Ytkhopkonddgicaa
open Go.RowKit

theorem Src.sixG {w : World} {b : Nat} {x y z x' y' z' : Value} (h0 : w.cell? ⟨b, 0, none⟩ = some x) (h1 : w.cell? ⟨b, 1, none⟩ = some y) (h2 : w.cell? ⟨b, 2, none⟩ = some z) (h3 : w.cell? ⟨b, 3, none⟩ = some x') (h4 : w.cell? ⟨b, 4, none⟩ = some y') (h5 : w.cell? ⟨b, 5, none⟩ = some z') : Src w (some ⟨b, 0, none⟩) 2 3 [x, y, z, x', y', z'] :=
  .inr ⟨_, rfl, rfl, fun j u hj => by
    match j, hj with
    | 0, hj => simp at hj; subst hj; rw [add_none]; exact h0
    | 1, hj => simp at hj; subst hj; rw [add_none]; exact h1
    | 2, hj => simp at hj; subst hj; rw [add_none]; exact h2
    | 3, hj => simp at hj; subst hj; rw [add_none]; exact h3
    | 4, hj => simp at hj; subst hj; rw [add_none]; exact h4
    | 5, hj => simp at hj; subst hj; rw [add_none]; exact h5⟩
theorem flat_snoc (M : List Gt) (g : Gt) : (M ++ [g]).flatMap gtEnc = M.flatMap gtEnc ++ [.int .i64 g.k, .int .i64 g.a, .int .i64 g.b] := by simp [gtEnc]
/-- What lies in memory while the circuit is made. -/
abbrev CiSp (w : World) (n : Nat) (A : Option Addr) (m cap : Nat) (M : List Gt) (N : Nat) (ov : Value) (W : World) : Prop :=
  Sp w W [Box w.heap.size 26 #[.int .i64 n, .slice A m cap], Own 41 3 ov N (M.flatMap gtEnc)]

set_option maxRecDepth 100000 in
set_option maxHeartbeats 16000000 in
theorem circuitOf_any (n : Nat) (v : Value) (xss : List (List Int)) (F : List Nat) (w : World) (hx : (Ty.slice Ty.int).row false w v xss F) (h1 : goodB n xss = true) :
    Calls Try.prog 8 #[.agg #[.int .i64 n, v]] w (GOut w (decide ((circR n xss).length ≤ 200)) (circR n xss)) := by
  obtain ⟨i0, hi0, hz0, hz1, hz2⟩ := info_parts infoGt
  obtain ⟨A, cap, rfl, hI⟩ := cls_row hx
  have hg := good_cnf h1
  have hn : n ≤ 12 := by omega
  have hm := hg.2.1
  have hcl : Hid (∀ c ∈ xss, c.length ≤ 1000) := fun c hc => (hg.2.2.2 c hc).2
  have hlit := Lib.hid (good_lits h1)
  have S0 := (Sp.start w).alloc_box #[.int .i64 n, .slice A xss.length cap] 26
  have hcall0 := implIsCnf_any n _ xss F _ (Ty.row_below hx S0.below (Ty.row_lt hx))
  rw [h1] at hcall0
  replace hcall0 := Lib.hid hcall0
  have hI2 := Lib.hid hI
  have hn0 : (0 : Int) ≤ n := by omega
  replace S0 := Lib.hid S0
  obtain ⟨m, hme⟩ : ∃ m, xss.length = m := ⟨_, rfl⟩
  rw [hme] at hcall0 S0 hm
  clear hx hI hg
  rw [hme]
  replace hme := Lib.hid hme
  go_enter Try.func8, Try.ntmps8
  go_wp2_with fail
  refine hcall0.out.mono ?_
  rintro e w1 ⟨rfl, hb1⟩
  have S1 := ((S0.out.grow hb1).own_nil 41 3).pick [1, 0] rfl
  replace S1 := Lib.hid S1
  clear S0 hb1 hcall0
  go_wp2_with fail
  go_loopw [5, 4] (fun i o wr => ∃ (j : Nat) (ov : Value), j ≤ n ∧ i = .int .i64 ((j : Int) + 1) ∧ o = ov ∧ Hid (CiSp w n A m cap (base1 j) j ov wr)) (fun i _ _ => n + 1 - (intOf i).toNat)
  case atStart => exact ⟨0, .slice none 0 0, Nat.zero_le _, rfl, rfl, S1⟩
  case round =>
    obtain ⟨j, ov, hj, rfl, rfl, hS⟩ := hrel
    clear S1
    have c0 := hS.out.cell (i := 0) rfl (o := 0) rfl
    obtain ⟨aO, cO, rfl⟩ := own_slice (hS.out.own (i := 1) rfl)
    by_cases hlt : j < n
    · have hji : ((j : Int) + 1) ≤ n := by omega
      have hw : IntKind.i64.wrap ((j : Int) + 1 + 1) = (j : Int) + 1 + 1 := IntWalk.i64_in _ (by omega)
      have S3 := hS.out.alloc_box #[.int .i64 1, .int .i64 ((j : Int) + 1), .int .i64 0] 41
      (try simp only [World.size_setCell] at S3)
      have kG0 := S3.cell (i := 0) rfl (o := 0) rfl
      have kG1 := S3.cell (i := 0) rfl (o := 1) rfl
      have kG2 := S3.cell (i := 0) rfl (o := 2) rfl
      replace S3 := Lib.hid S3
      clear hS
      go_wp2_with (at_builtin; refine wpList_append_src rfl _ _ rfl Try.underlying28 hi0 hz0 hz1 hz2 rfl (by decide) _ j _ rfl (S3.out.own (i := 2) rfl) _ 1 1 [.int .i64 1, .int .i64 ((j : Int) + 1), .int .i64 0] rfl (Src.threeG kG0 kG1 kG2) (by simp [Value.oneCell']) ?c3 ?c4 ?_)
      case c3 => unfold maxLen; omega
      case c4 => omega
      intro vE wE hownE hgE hatE
      have S4 := (S3.out.own_push (i := 2) rfl (bb _) hownE hgE (by simpa using hatE)).tail
      simp only [List.set_cons_zero, List.set_cons_succ] at S4
      obtain ⟨aE, cE, rfl⟩ := own_slice hownE
      have hS := Lib.hid S4
      clear S3 S4 kG0 kG1 kG2 hownE hgE hatE
      clear c0
      go_wp2_with fail
      go_roundw
      case rel =>
        refine ⟨j + 1, _, by omega, by first | rfl | simp, rfl, ?_⟩
        unfold Hid CiSp
        rw [base1_succ, flat_snoc]
        exact hS.out
      case measure => simp [intOf]; omega
    · obtain rfl : n = j := by omega
      have hji : ¬ ((n : Int) + 1) ≤ n := by omega
      go_wp2_with fail
      clear hji hlt
      go_loopw [31, 4] (fun i o wr => ∃ (j : Nat) (ov : Value), j ≤ n ∧ i = .int .i64 (j : Int) ∧ o = ov ∧ Hid (CiSp w n A m cap (base2 n j) (n + j) ov wr)) (fun i _ _ => n - (intOf i).toNat)
      case atStart => exact ⟨0, _, Nat.zero_le _, rfl, rfl, by unfold Hid; rw [base2_zero]; exact hS.out⟩
      case round =>
        obtain ⟨j, ov, hj, rfl, rfl, hS⟩ := hrel
        clear c0
        have c0 := hS.out.cell (i := 0) rfl (o := 0) rfl
        obtain ⟨aO, cO, rfl⟩ := own_slice (hS.out.own (i := 1) rfl)
        by_cases hlt : j < n
        · have hji : (j : Int) < n := by omega
          have S3 := hS.out.alloc_box #[.int .i64 4, .int .i64 (j : Int), .int .i64 0] 41
          (try simp only [World.size_setCell] at S3)
          have kG0 := S3.cell (i := 0) rfl (o := 0) rfl
          have kG1 := S3.cell (i := 0) rfl (o := 1) rfl
          have kG2 := S3.cell (i := 0) rfl (o := 2) rfl
          replace S3 := Lib.hid S3
          clear hS
          go_wp2_with (at_builtin; refine wpList_append_src rfl _ _ rfl Try.underlying28 hi0 hz0 hz1 hz2 rfl (by decide) _ (n+j) _ rfl (S3.out.own (i := 2) rfl) _ 1 1 [.int .i64 4, .int .i64 (j : Int), .int .i64 0] rfl (Src.threeG kG0 kG1 kG2) (by simp [Value.oneCell']) ?c3 ?c4 ?_)
          case c3 => unfold maxLen; omega
          case c4 => omega
          intro vE wE hownE hgE hatE
          have S4 := (S3.out.own_push (i := 2) rfl (bb _) hownE hgE (by simpa using hatE)).tail
          simp only [List.set_cons_zero, List.set_cons_succ] at S4
          obtain ⟨aE, cE, rfl⟩ := own_slice hownE
          have hS := Lib.hid S4
          clear S3 S4 kG0 kG1 kG2 hownE hgE hatE
          clear c0
          go_wp2_with fail
          go_roundw
          case rel =>
            refine ⟨j + 1, _, by omega, by first | rfl | simp, rfl, ?_⟩
            unfold Hid CiSp
            rw [base2_succ, flat_snoc]
            exact hS.out
          case measure => simp [intOf]; omega
        · obtain rfl : n = j := by omega
          have hji : ¬ (n : Int) < n := by omega
          have S3 := hS.out.alloc_box #[.int .i64 2, .int .i64 0, .int .i64 0, .int .i64 3, .int .i64 0, .int .i64 0] 41
          have kG0 := S3.cell (i := 0) rfl (o := 0) rfl
          have kG1 := S3.cell (i := 0) rfl (o := 1) rfl
          have kG2 := S3.cell (i := 0) rfl (o := 2) rfl
          have kG3 := S3.cell (i := 0) rfl (o := 3) rfl
          have kG4 := S3.cell (i := 0) rfl (o := 4) rfl
          have kG5 := S3.cell (i := 0) rfl (o := 5) rfl
          replace S3 := Lib.hid S3
          clear hS
          go_wp2_with (at_builtin; refine wpList_append_src rfl _ _ rfl Try.underlying28 hi0 hz0 hz1 hz2 rfl (by decide) _ (n+n) _ rfl (S3.out.own (i := 2) rfl) _ 2 2 [.int .i64 2, .int .i64 0, .int .i64 0, .int .i64 3, .int .i64 0, .int .i64 0] rfl (Src.sixG kG0 kG1 kG2 kG3 kG4 kG5) (by simp [Value.oneCell']) ?c3 ?c4 ?_)
          case c3 => unfold maxLen; omega
          case c4 => omega
          intro vE wE hownE hgE hatE
          have S4 := (S3.out.own_push (i := 2) rfl (bb _) hownE hgE (by simpa using hatE)).tail
          simp only [List.set_cons_zero, List.set_cons_succ] at S4
          obtain ⟨aE, cE, rfl⟩ := own_slice hownE
          clear S3 hownE hgE hatE kG0 kG1 kG2 kG3 kG4 kG5 hji hlt c0
          have hlen0 : Hid ((cnfG n (xss.take 0)).1.length = n + n + 2) := by
            unfold Hid
            show (baseG n).length = _
            rw [base_len]
            omega
          have hS : Hid (CiSp w n A m cap (cnfG n (xss.take 0)).1 (n + n + 2) (.slice aE (n + n + 2) cE) wE) := by
            unfold Hid CiSp
            show Sp w wE [_, Own _ _ _ _ ((baseG n).flatMap gtEnc)]
            rw [base_eq, List.flatMap_append]
            exact S4
          clear S4
          have c1 := hS.out.cell (i := 0) rfl (o := 1) rfl
          go_wp2_with fail
          clear c1
          go_loopw [54, 4, 7] (fun i o cn wr => ∃ (j N : Nat) (ov : Value) (z : Int), j ≤ m ∧ i = .int .i64 (j : Int) ∧ o = ov ∧ cn = .int .i64 z ∧ N ≤ 26 + 1001 * j ∧ Hid ((cnfG n (xss.take j)).1.length = N) ∧ Hid (z = ((cnfG n (xss.take j)).2 : Nat)) ∧ Hid (CiSp w n A m cap (cnfG n (xss.take j)).1 N ov wr)) (fun i _ _ _ => m - (intOf i).toNat)
          case atStart => exact ⟨0, n + n + 2, _, _, Nat.zero_le _, rfl, rfl, rfl, by omega, hlen0, by unfold Hid; show _ = ((2 * n : Nat) : Int); omega, hS⟩
          case round =>
            obtain ⟨j, N, ov, z, hj, rfl, rfl, rfl, hN, hNl, hz, hS⟩ := hrel
            clear hlen0
            obtain ⟨aO, cO, rfl⟩ := own_slice (hS.out.own (i := 1) rfl)
            by_cases hlt : j < m
            · have hji : (j : Int) < m := by omega
              have hjx : j < xss.length := by rw [hme.out]; exact hlt
              obtain ⟨b, off, B, cB, e, hc, hT⟩ := hI2.out.at_ j hjx
              cases e
              have hcl1 := hcl.out _ (List.getElem_mem hjx)
              have hli1 := hlit.out _ (List.getElem_mem hjx)
              have htk := cnfG_take (n := n) hjx
              generalize xss[j] = c at hc hT hcl1 hli1 htk
              have hcw := (hS.out.below.cell (p := ⟨b, off + j, none⟩) (World.block_lt_of_cell? _ _ hc)).trans hc
              have hzc := hz.out
              generalize cnfG n (xss.take j) = s at hNl hS htk hzc
              clear hz hc
              obtain ⟨M, zn⟩ := s
              dsimp only at hNl hS hzc
              obtain ⟨L, hL⟩ : ∃ L, c.length = L := ⟨_, rfl⟩
              rw [hL] at hcl1 hcw
              replace hL := Lib.hid hL
              replace hT := Lib.hid hT
              replace hli1 := Lib.hid hli1
              replace htk := Lib.hid htk
              replace hzc := Lib.hid hzc
              go_wp2_with fail
              clear hcw
              have hl0 : Hid (((c.take 0).foldl (litG n) (M, 2 * n + 1)).1.length = N + 0) := hNl
              go_loopw [61, 4, 11] (fun i o cn wo => ∃ (q : Nat) (ov2 : Value) (z2 : Int), q ≤ L ∧ i = .int .i64 (q : Int) ∧ o = ov2 ∧ cn = .int .i64 z2 ∧ Hid (((c.take q).foldl (litG n) (M, 2 * n + 1)).1.length = N + q) ∧ Hid (z2 = (((c.take q).foldl (litG n) (M, 2 * n + 1)).2 : Nat)) ∧ Hid (CiSp w n (some ⟨b, off, none⟩) m cap ((c.take q).foldl (litG n) (M, 2 * n + 1)).1 (N + q) ov2 wo)) (fun i _ _ _ => L - (intOf i).toNat)
              case atStart => exact ⟨0, _, _, Nat.zero_le _, rfl, rfl, rfl, hl0, by unfold Hid; show _ = ((2 * n + 1 : Nat) : Int); omega, hS⟩
              case round =>
                rename World => wo
                obtain ⟨q, ov2, z2, hq, rfl, rfl, rfl, hl3, hz3, hS3⟩ := hrel
                clear hS hl0
                obtain ⟨aP, cP, rfl⟩ := own_slice (hS3.out.own (i := 1) rfl)
                by_cases hlt2 : q < L
                · have hqi : (q : Int) < L := by omega
                  have hqc : q < c.length := by rw [hL.out]; exact hlt2
                  obtain ⟨bb', ob, e, hd⟩ := hT.out.at_ q hqc
                  cases e
                  have hdw := (hS3.out.below.cell (p := ⟨bb', ob + q, none⟩) (World.block_lt_of_cell? _ _ hd)).trans hd
                  have hln := hli1.out _ (List.getElem_mem hqc)
                  have hst := lits_take (n := n) (M, 2 * n + 1) hqc
                  unfold LitN at hln
                  generalize c[q] = l at hdw hln hst
                  clear hd
                  generalize (c.take q).foldl (litG n) (M, 2 * n + 1) = t at hl3 hz3 hS3 hst
                  obtain ⟨T, zt⟩ := t
                  dsimp only at hl3 hz3 hS3
                  have hst2 : Hid ((c.take (q + 1)).foldl (litG n) (M, 2 * n + 1) = (T ++ [⟨6, (zt : Nat), litIx n l⟩], N + q)) := by
                    unfold Hid
                    rw [hst]
                    unfold litG
                    rw [hl3.out]
                  clear hst
                  have hw1 : IntKind.i64.wrap (l - 1) = l - 1 := IntWalk.i64_in _ (by omega)
                  have hw2 : IntKind.i64.wrap ((n : Int) - l) = (n : Int) - l := IntWalk.i64_in _ (by omega)
                  have hw3 : IntKind.i64.wrap ((n : Int) - l - 1) = (n : Int) - l - 1 := IntWalk.i64_in _ (by omega)
                  have c0 := hS3.out.cell (i := 0) rfl (o := 0) rfl
                  by_cases hneg : l < 0
                  · have hix : Hid (litIx n l = (n : Int) - l - 1) := by unfold Hid litIx; rw [if_pos hneg]
                    have S3 := hS3.out.alloc_box #[.int .i64 6, .int .i64 z2, .int .i64 ((n : Int) - l - 1)] 41
                    (try simp only [World.size_setCell] at S3)
                    have kG0 := S3.cell (i := 0) rfl (o := 0) rfl
                    have kG1 := S3.cell (i := 0) rfl (o := 1) rfl
                    have kG2 := S3.cell (i := 0) rfl (o := 2) rfl
                    replace S3 := Lib.hid S3
                    clear hS3
                    go_wp2_with (at_builtin; refine wpList_append_src rfl _ _ rfl Try.underlying28 hi0 hz0 hz1 hz2 rfl (by decide) _ (N+q) _ rfl (S3.out.own (i := 2) rfl) _ 1 1 [.int .i64 6, .int .i64 z2, .int .i64 ((n : Int) - l - 1)] rfl (Src.threeG kG0 kG1 kG2) (by simp [Value.oneCell']) ?c3 ?c4 ?_)
                    case c3 => unfold maxLen; omega
                    case c4 => omega
                    intro vE wE hownE hgE hatE
                    have S4 := (S3.out.own_push (i := 2) rfl (bb _) hownE hgE (by simpa using hatE)).tail
                    simp only [List.set_cons_zero, List.set_cons_succ] at S4
                    obtain ⟨aE, cE, rfl⟩ := own_slice hownE
                    have hS3 := Lib.hid S4
                    clear S3 S4 kG0 kG1 kG2 hownE hgE hatE
                    clear c0 hdw
                    go_wp2_with fail
                    go_roundw
                    case rel =>
                      refine ⟨q + 1, _, _, by omega, by first | rfl | simp, rfl, rfl, ?_, ?_, ?_⟩
                      · unfold Hid; rw [hst2.out, List.length_append, hl3.out]; rfl
                      · unfold Hid; rw [hst2.out]; omega
                      · unfold Hid CiSp; rw [hst2.out]; dsimp only; rw [flat_snoc, hix.out, ← hz3.out]; exact hS3.out
                    case measure => simp [intOf]; omega
                  · have hix : Hid (litIx n l = l - 1) := by unfold Hid litIx; rw [if_neg hneg]
                    have hneg2 : 0 ≤ l := by omega
                    have S3 := hS3.out.alloc_box #[.int .i64 6, .int .i64 z2, .int .i64 (l - 1)] 41
                    (try simp only [World.size_setCell] at S3)
                    have kG0 := S3.cell (i := 0) rfl (o := 0) rfl
                    have kG1 := S3.cell (i := 0) rfl (o := 1) rfl
                    have kG2 := S3.cell (i := 0) rfl (o := 2) rfl
                    replace S3 := Lib.hid S3
                    clear hS3
                    go_wp2_with (at_builtin; refine wpList_append_src rfl _ _ rfl Try.underlying28 hi0 hz0 hz1 hz2 rfl (by decide) _ (N+q) _ rfl (S3.out.own (i := 2) rfl) _ 1 1 [.int .i64 6, .int .i64 z2, .int .i64 (l - 1)] rfl (Src.threeG kG0 kG1 kG2) (by simp [Value.oneCell']) ?c3 ?c4 ?_)
                    case c3 => unfold maxLen; omega
                    case c4 => omega
                    intro vE wE hownE hgE hatE
                    have S4 := (S3.out.own_push (i := 2) rfl (bb _) hownE hgE (by simpa using hatE)).tail
                    simp only [List.set_cons_zero, List.set_cons_succ] at S4
                    obtain ⟨aE, cE, rfl⟩ := own_slice hownE
                    have hS3 := Lib.hid S4
                    clear S3 S4 kG0 kG1 kG2 hownE hgE hatE
                    clear c0 hdw
                    go_wp2_with fail
                    go_roundw
                    case rel =>
                      refine ⟨q + 1, _, _, by omega, by first | rfl | simp, rfl, rfl, ?_, ?_, ?_⟩
                      · unfold Hid; rw [hst2.out, List.length_append, hl3.out]; rfl
                      · unfold Hid; rw [hst2.out]; omega
                      · unfold Hid CiSp; rw [hst2.out]; dsimp only; rw [flat_snoc, hix.out, ← hz3.out]; exact hS3.out
                    case measure => simp [intOf]; omega
                · obtain rfl : L = q := by omega
                  have hcl2 : Hid ((c.take L).foldl (litG n) (M, 2 * n + 1) = c.foldl (litG n) (M, 2 * n + 1)) := by unfold Hid; rw [List.take_of_length_le (by rw [hL.out]; exact Nat.le_refl _)]
                  rw [hcl2.out] at hl3 hz3 hS3
                  have hst2 : Hid (cnfG n (xss.take (j + 1)) = ((c.foldl (litG n) (M, 2 * n + 1)).1 ++ [⟨5, (zn : Nat), ((c.foldl (litG n) (M, 2 * n + 1)).2 : Nat)⟩], N + L)) := by
                    unfold Hid
                    rw [htk.out]
                    unfold clG
                    rw [hl3.out]
                  clear hcl2 htk hT hli1
                  generalize c.foldl (litG n) (M, 2 * n + 1) = t at hl3 hz3 hS3 hst2
                  obtain ⟨T, zt⟩ := t
                  dsimp only at hl3 hz3 hS3 hst2
                  have S3 := hS3.out.alloc_box #[.int .i64 5, .int .i64 z, .int .i64 z2] 41
                  (try simp only [World.size_setCell] at S3)
                  have kG0 := S3.cell (i := 0) rfl (o := 0) rfl
                  have kG1 := S3.cell (i := 0) rfl (o := 1) rfl
                  have kG2 := S3.cell (i := 0) rfl (o := 2) rfl
                  replace S3 := Lib.hid S3
                  clear hS3
                  go_wp2_with (at_builtin; refine wpList_append_src rfl _ _ rfl Try.underlying28 hi0 hz0 hz1 hz2 rfl (by decide) _ (N+L) _ rfl (S3.out.own (i := 2) rfl) _ 1 1 [.int .i64 5, .int .i64 z, .int .i64 z2] rfl (Src.threeG kG0 kG1 kG2) (by simp [Value.oneCell']) ?c3 ?c4 ?_)
                  case c3 => unfold maxLen; omega
                  case c4 => omega
                  intro vE wE hownE hgE hatE
                  have S4 := (S3.out.own_push (i := 2) rfl (bb _) hownE hgE (by simpa using hatE)).tail
                  simp only [List.set_cons_zero, List.set_cons_succ] at S4
                  obtain ⟨aE, cE, rfl⟩ := own_slice hownE
                  have hS3 := Lib.hid S4
                  clear S3 S4 kG0 kG1 kG2 hownE hgE hatE
                  go_wp2_with fail
                  go_roundw
                  case rel =>
                    refine ⟨j + 1, N + L + 1, _, _, by omega, by first | rfl | simp, rfl, rfl, by omega, ?_, ?_, ?_⟩
                    · unfold Hid; rw [hst2.out, List.length_append, hl3.out]; rfl
                    · unfold Hid; rw [hst2.out]; omega
                    · unfold Hid CiSp; rw [hst2.out]; dsimp only; rw [flat_snoc, ← hz3.out, ← hzc.out]; exact hS3.out
                  case measure => simp [intOf]; omega
            · obtain rfl : m = j := by omega
              rw [show xss.take m = xss from List.take_of_length_le (by rw [hme.out]; exact Nat.le_refl _)] at hNl hS
              have hji : ¬ (m : Int) < m := by omega
              have c1 := hS.out.cell (i := 0) rfl (o := 1) rfl
              clear hz hlit hcl hI2
              by_cases h0 : m = 0
              · subst h0
                obtain rfl : xss = [] := List.length_eq_zero_iff.1 hme.out
                have hR : Hid (circR n [] = (cnfG n []).1 ++ [⟨2, 0, 0⟩]) := rfl
                generalize (cnfG n []).1 = R at hNl hS hR
                have hbi : ¬ (200 : Int) < (N : Int) + 1 := by omega
                have hd : Hid (decide ((circR n []).length ≤ 200) = true) := by
                  unfold Hid
                  rw [hR.out, List.length_append, hNl.out]
                  exact decide_eq_true (by simp; omega)
                have S3 := hS.out.alloc_box #[.int .i64 2, .int .i64 0, .int .i64 0] 41
                (try simp only [World.size_setCell] at S3)
                have kG0 := S3.cell (i := 0) rfl (o := 0) rfl
                have kG1 := S3.cell (i := 0) rfl (o := 1) rfl
                have kG2 := S3.cell (i := 0) rfl (o := 2) rfl
                replace S3 := Lib.hid S3
                clear hS
                go_wp2_with (at_builtin; refine wpList_append_src rfl _ _ rfl Try.underlying28 hi0 hz0 hz1 hz2 rfl (by decide) _ N _ rfl (S3.out.own (i := 2) rfl) _ 1 1 [.int .i64 2, .int .i64 0, .int .i64 0] rfl (Src.threeG kG0 kG1 kG2) (by simp [Value.oneCell']) ?c3 ?c4 ?_)
                case c3 => unfold maxLen; omega
                case c4 => omega
                intro vE wE hownE hgE hatE
                have S4 := (S3.out.own_push (i := 2) rfl (bb _) hownE hgE (by simpa using hatE)).tail
                simp only [List.set_cons_zero, List.set_cons_succ] at S4
                obtain ⟨aE, cE, rfl⟩ := own_slice hownE
                have hS := Lib.hid S4
                clear S3 S4 kG0 kG1 kG2 hownE hgE hatE
                have hf : Sp w wE [Own 41 3 (.slice aE (N + 1) cE) (R ++ [(⟨2, 0, 0⟩ : Gt)]).length ((R ++ [(⟨2, 0, 0⟩ : Gt)]).flatMap gtEnc)] := by
                  rw [List.length_append, hNl.out, flat_snoc]
                  exact hS.out.pick [1] rfl
                replace hf := Lib.hid hf
                clear hS c1
                go_wp2_with fail
                go_ret2
                rw [hd.out, hR.out]
                exact GOut.yes hf.out
              · have hR : Hid (circR n xss = (cnfG n xss).1) := by
                  unfold Hid circR
                  rw [if_neg (fun e => h0 (by have := hme.out; rw [e] at this; exact this.symm)), List.append_nil]
                generalize (cnfG n xss).1 = R at hNl hS hR
                have hm0 : ((m : Int) == 0) = false := beq_eq_false_iff_ne.2 (by omega)
                have hm1 : decide ((m : Int) = 0) = false := decide_eq_false (by omega)
                by_cases hbig : N ≤ 200
                · have hbi : ¬ (200 : Int) < N := by omega
                  have hd : Hid (decide ((circR n xss).length ≤ 200) = true) := by unfold Hid; rw [hR.out, hNl.out]; exact decide_eq_true hbig
                  have hf : Sp w wr [Own 41 3 (.slice aO N cO) R.length (R.flatMap gtEnc)] := by rw [hNl.out]; exact hS.out.pick [1] rfl
                  replace hf := Lib.hid hf
                  go_wp2_with fail
                  go_ret2
                  rw [hd.out, hR.out]
                  exact GOut.yes hf.out
                · have hbi : (200 : Int) < N := by omega
                  have hd : Hid (decide ((circR n xss).length ≤ 200) = false) := by unfold Hid; rw [hR.out, hNl.out]; exact decide_eq_false hbig
                  have hB := Lib.hid hS.out.below
                  go_wp2_with fail
                  go_ret2
                  rw [hd.out]
                  exact GOut.no hB.out

set_option maxRecDepth 100000 in
set_option maxHeartbeats 4000000 in
theorem circuitOf_no (vars : Int) (v : Value) (xss : List (List Int)) (F : List Nat) (w : World) (hx : (Ty.slice Ty.int).row false w v xss F) (h1 : goodB vars xss = false) :
    Calls Try.prog 8 #[.agg #[.int .i64 vars, v]] w (GOut w false (circR vars.toNat xss)) := by
  obtain ⟨A, cap, rfl, hI⟩ := cls_row hx
  have S0 := (Sp.start w).alloc_box #[.int .i64 vars, .slice A xss.length cap] 26
  have hcall0 := implIsCnf_any vars _ xss F _ (Ty.row_below hx S0.below (Ty.row_lt hx))
  rw [h1] at hcall0
  replace hcall0 := Lib.hid hcall0
  replace S0 := Lib.hid S0
  clear hx hI
  go_enter Try.func8, Try.ntmps8
  go_wp2_with fail
  refine hcall0.out.mono ?_
  rintro e w1 ⟨rfl, hb1⟩
  have hB := Lib.hid (btr S0.out.below hb1)
  go_wp2_with fail
  go_ret2
  exact GOut.no hB.out
end Go.Proofs.Ytkhopkonddgicaa

/- Contracts: the constants of the reference; equal rows of gates. -/
namespace Go.Proofs.Ytkhopkonddgicaa
open Go.RowKit

set_option maxRecDepth 100000 in
theorem l6Constant_any (q : Bool) (w : World) : Calls Try.prog 77 #[.bool q] w fun e w' => e = .returned (gtV ⟨if q then 2 else 3, 0, 0⟩) ∧ Below w.heap.size w w' := by
  cases q
  · have S5 := (Sp.start w).alloc_box #[.int .i64 3, .int .i64 0, .int .i64 0] 41
    have j0 := S5.cell (i := 0) rfl (o := 0) rfl
    have j1 := S5.cell (i := 0) rfl (o := 1) rfl
    have j2 := S5.cell (i := 0) rfl (o := 2) rfl
    have hB := S5.below
    clear S5
    go_enter Try.func77, Try.ntmps77
    go_wp2_with fail
    exact bodyPost_ret (v := gtV ⟨3, 0, 0⟩) (by simp [results, Try.results77, go_sem, j0, j1, j2]) rfl ⟨rfl, hB⟩
  · have S5 := (Sp.start w).alloc_box #[.int .i64 2, .int .i64 0, .int .i64 0] 41
    have j0 := S5.cell (i := 0) rfl (o := 0) rfl
    have j1 := S5.cell (i := 0) rfl (o := 1) rfl
    have j2 := S5.cell (i := 0) rfl (o := 2) rfl
    have hB := S5.below
    clear S5
    go_enter Try.func77, Try.ntmps77
    go_wp2_with fail
    exact bodyPost_ret (v := gtV ⟨2, 0, 0⟩) (by simp [results, Try.results77, go_sem, j0, j1, j2]) rfl ⟨rfl, hB⟩

set_option maxRecDepth 100000 in
set_option maxHeartbeats 4000000 in
theorem rGates_same (A B : Option Addr) (c d : Nat) (gs : List Gt) (w : World) (hx : GtAt w A gs) (hy : GtAt w B gs) (hl : gs.length ≤ 1000000) :
    Calls Try.prog 10 #[.slice A gs.length c, .slice B gs.length d] w fun e w' => e = .returned (.bool true) ∧ Below w.heap.size w w' := by
  have hX := Lib.hid hx
  have hY := Lib.hid hy
  have hB0 : Hid (Below w.heap.size w w) := Lib.hid (bb w)
  have hst := gt_held
  have hgu := gt_guard
  clear hx hy
  go_enter Try.func10, Try.ntmps10
  go_wp2_with fail
  go_loopw [5] (fun i wr => ∃ k : Nat, k ≤ gs.length ∧ i = .int .i64 k ∧ Hid (Below w.heap.size w wr)) (fun i _ => gs.length - (intOf i).toNat)
  case atStart => exact ⟨0, Nat.zero_le _, rfl, hB0⟩
  case round =>
    obtain ⟨k, hk, rfl, HB⟩ := hrel
    by_cases hlt : k < gs.length
    · obtain ⟨b, off, rfl, m0, m1, m2⟩ := (hX.out.grow HB.out).at_ k hlt
      obtain ⟨b2, off2, rfl, n0, n1, n2⟩ := (hY.out.grow HB.out).at_ k hlt
      have k0 := cell_regrown m0
      have k1 := cell_regrown m1
      have k2 := cell_regrown m2
      have l0 := cell_regrown n0
      have l1 := cell_regrown n1
      have l2 := cell_regrown n2
      generalize gs[k] = m at *
      obtain ⟨v', lo', hi'⟩ := m
      dsimp only at *
      clear m0 m1 m2 n0 n1 n2
      go_wp2_with fail
      refine wp_region_quiet_below (by kernel_rfl) (by kernel_rfl) ?_
      repeat (any_goals (go_big_quiet_step (fail)))
      refine wpQuiet_nil ?_
      rintro w1 ⟨p, rfl⟩
      have HB2 := Lib.hid (btr HB.out (below_regrown _ p.d p.os))
      clear HB k0 k1 k2 l0 l1 l2
      go_wp2_with fail
      go_roundw
      case rel => exact ⟨k + 1, by omega, by go_num, HB2⟩
      case measure => simp [intOf]; omega
    · obtain rfl : k = gs.length := by omega
      go_wp2_with fail
      go_ret
      exact ⟨rfl, HB.out⟩
end Go.Proofs.Ytkhopkonddgicaa
