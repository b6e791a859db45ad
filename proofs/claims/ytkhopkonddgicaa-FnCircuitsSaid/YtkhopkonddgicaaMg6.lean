/- Lemmas and contracts for a law, put together out of several texts: GtU GtL GtO GtX GuP GuA GuB GtM GtMB GtY. -/
import Derived.Test.YtkhopkonddgicaaMg5
import Derived.Test.YtkhopkonddgicaaMg1
import Derived.Test.YtkhopkonddgicaaMg3
/- Contract: a gate is folded. -/
namespace Go.Proofs.Ytkhopkonddgicaa
open Go.RowKit

set_option maxRecDepth 100000 in
set_option maxHeartbeats 8000000 in
theorem fold_any {w0 : World} {ps : List Asn} {vars : Int} (p : Nat) (sv : Value) (M : List Gt) (g : Gt) (w : World) (hok : ∀ x ∈ M, gtOk x) (hM : OkG vars M) (hl : M.length ≤ 1000) (hg : gtB vars M.length g = true) (HS : FoldSp w0 p sv M ps w) :
    Calls Try.prog 88 #[.pointer (some ⟨p, 0, none⟩), gtV g] w fun e w' => ∃ sv', e = .returned (.int .i64 ((foldG M g).2 : Nat)) ∧ FoldSp w0 p sv' (foldG M g).1 ps w' := by
  obtain ⟨k, a, b⟩ := g
  have hgi := gtB_iff.1 hg
  dsimp only at hgi
  have S3 := HS.alloc_box #[.int .i64 k, .int .i64 a, .int .i64 b] 41
  have hP : foldG M ⟨k, a, b⟩ = if k = 4 then
    if kindG M a = 2 then keepG M ⟨3, 0, 0⟩ else if kindG M a = 3 then keepG M ⟨2, 0, 0⟩
    else if kindG M a = 4 then (M, (M.getD a.toNat ⟨0, 0, 0⟩).a.toNat) else keepG M ⟨k, a, b⟩
    else if k = 5 then pairG M ⟨k, a, b⟩ 3 2 else if k = 6 then pairG M ⟨k, a, b⟩ 2 3 else keepG M ⟨k, a, b⟩ := rfl
  by_cases h4 : k = 4
  · subst h4
    obtain ⟨m, rfl⟩ : ∃ m : Nat, a = m := ⟨a.toNat, by omega⟩
    have hml : m < M.length := by omega
    have hmi : (m : Int) < M.length := by omega
    rw [if_pos rfl] at hP
    obtain ⟨A, c, rfl, hN⟩ := gt_own (HS.own (i := 1) rfl) hok
    obtain ⟨gb, off, rfl, m0, m1, m2⟩ := (hN.grow (bal (bb w) (.cells #[.int .i64 4, .int .i64 (m : Int), .int .i64 b] 41))).at_ m hml
    have hka : kindG M (m : Int) = M[m].k := kind_at (i := (m : Int)) (by omega)
    have hd : M.getD (m : Int).toNat ⟨0, 0, 0⟩ = M[m] := by rw [Int.toNat_natCast, List.getD_eq_getElem?_getD, List.getElem?_eq_getElem hml]; rfl
    have hma := gtB_iff.1 (hM m hml)
    rw [hka, hd] at hP
    have hk3 := Lib.hid (fun W h => keep_any (w0 := w0) (ps := ps) p (.slice (some ⟨gb, off, none⟩) M.length c) M ⟨3, 0, 0⟩ W hok hl h)
    have hk2 := Lib.hid (fun W h => keep_any (w0 := w0) (ps := ps) p (.slice (some ⟨gb, off, none⟩) M.length c) M ⟨2, 0, 0⟩ W hok hl h)
    have hk4 := Lib.hid (fun W h => keep_any (w0 := w0) (ps := ps) p (.slice (some ⟨gb, off, none⟩) M.length c) M ⟨4, (m : Int), b⟩ W hok hl h)
    have g1 := S3.cell (i := 0) rfl (o := 1) rfl
    have e0 := S3.cell (i := 1) rfl (o := 0) rfl
    generalize M[m] = q at *
    obtain ⟨qk, qa, qb⟩ := q
    dsimp only at m0 m1 m2 hma hP
    obtain ⟨R, hR⟩ : ∃ R, foldG M ⟨4, (m : Int), b⟩ = R := ⟨_, rfl⟩
    rw [hR] at hP ⊢
    clear hR
    replace S3 := Lib.hid S3
    replace hP := Lib.hid hP
    replace hma := Lib.hid hma
    clear hka hd hN hok hM hg HS hgi
    go_enter Try.func88, Try.ntmps88
    go_wp2_with fail
    refine wp_region_held_lit (S := (fun w' => w'.cell? ⟨p, 0, none⟩ = some (.slice (some ⟨gb, off, none⟩) M.length c) ∧ w'.cell? ⟨w.heap.size, 1, none⟩ = some (.int .i64 (m : Int)) ∧ w'.cell? ⟨gb, off + m * 3, none⟩ = some (.int .i64 qk) ∧ w'.cell? ⟨gb, off + m * 3 + 1, none⟩ = some (.int .i64 qa) ∧ w'.cell? ⟨gb, off + m * 3 + 2, none⟩ = some (.int .i64 qb))) 10 [false, false, false, false, false, false, false, false, false, false] (by kernel_rfl) (by kernel_rfl) (by kernel_rfl) ?_ ?_
    · exact ⟨e0, g1, m0, m1, m2⟩
    intro hSc
    (refine wpAnyH_take (i := 0) (v := ?_) rfl (by kernel_rfl) (by kernel_rfl) (by kernel_rfl) (fun _ _ _ h => h) (Or.inl ⟨by rfl, ?_⟩) (by assumption) ?_; rotate_left; (focus (intro w hSw; (try dsimp only at hSw); go_simp; (try with_reducible rfl); done)); (try simp only [put_rules]))
    (refine wpAnyH_take (i := 1) (v := ?_) rfl (by kernel_rfl) (by kernel_rfl) (by kernel_rfl) (fun _ _ _ h => h) (Or.inl ⟨by rfl, ?_⟩) (by assumption) ?_; rotate_left; (focus (intro w hSw; (try dsimp only at hSw); go_simp; (try with_reducible rfl); done)); (try simp only [put_rules]))
    (refine wpAnyH_take (i := 2) (v := ?_) rfl (by kernel_rfl) (by kernel_rfl) (by kernel_rfl) (fun _ _ _ h => h) (Or.inl ⟨by rfl, ?_⟩) (by assumption) ?_; rotate_left; (focus (intro w hSw; (try dsimp only at hSw); go_simp; (try with_reducible rfl); done)); (try simp only [put_rules]))
    (refine wpAnyH_take (i := 3) (v := ?_) rfl (by kernel_rfl) (by kernel_rfl) (by kernel_rfl) (fun _ _ _ h => h) (Or.inl ⟨by rfl, ?_⟩) (by assumption) ?_; rotate_left; (focus (intro w hSw; (try dsimp only at hSw); go_simp; (try with_reducible rfl); done)); (try simp only [put_rules]))
    (refine wpAnyH_take (i := 4) (v := ?_) rfl (by kernel_rfl) (by kernel_rfl) (by kernel_rfl) (fun _ _ _ h => h) (Or.inl ⟨by rfl, ?_⟩) (by assumption) ?_; rotate_left; (focus (intro w hSw; (try dsimp only at hSw); go_simp; (try with_reducible rfl); done)); (try simp only [put_rules]))
    (refine wpAnyH_take (i := 5) (v := ?_) rfl (by kernel_rfl) (by kernel_rfl) (by kernel_rfl) (fun _ _ _ h => h) (Or.inl ⟨by rfl, ?_⟩) (by assumption) ?_; rotate_left; (focus (intro w hSw; (try dsimp only at hSw); go_simp; (try with_reducible rfl); done)); (try simp only [put_rules]))
    (refine wpAnyH_take (i := 6) (v := ?_) rfl (by kernel_rfl) (by kernel_rfl) (by kernel_rfl) (fun _ _ _ h => h) (Or.inl ⟨by rfl, ?_⟩) (by assumption) ?_; rotate_left; (focus (intro w hSw; (try dsimp only at hSw); go_simp; (try with_reducible rfl); done)); (try simp only [put_rules]))
    (refine wpAnyH_take (i := 7) (v := ?_) rfl (by kernel_rfl) (by kernel_rfl) (by kernel_rfl) (fun _ _ _ h => h) (Or.inl ⟨by rfl, ?_⟩) (by assumption) ?_; rotate_left; (focus (intro w hSw; (try dsimp only at hSw); go_simp; (try with_reducible rfl); done)); (try simp only [put_rules]))
    (refine wpAnyH_ready (rs := [8]) (by kernel_rfl) (by simp) ?_; refine AllReadyH.cons rfl (fun K hK => ?_) AllReadyH.nil)
    go_simp
    have S4 := Lib.hid (S3.out.alloc_box #[.int .i64 0, .int .i64 0, .int .i64 0] 41)
    have hgs : gb < w.heap.size + 1 := by have := World.block_lt_of_cell? _ _ m0; simpa using this
    have hcells : ∀ W, Below (w.heap.size + 1) (w.alloc (.cells #[.int .i64 4, .int .i64 (m : Int), .int .i64 b] 41)) W → W.cell? ⟨gb, off + m * 3, none⟩ = some (.int .i64 qk) ∧ W.cell? ⟨gb, off + m * 3 + 1, none⟩ = some (.int .i64 qa) ∧ W.cell? ⟨gb, off + m * 3 + 2, none⟩ = some (.int .i64 qb) := fun W h =>
      ⟨(h.cell (p := ⟨gb, off + m * 3, none⟩) hgs).trans m0, (h.cell (p := ⟨gb, off + m * 3 + 1, none⟩) hgs).trans m1, (h.cell (p := ⟨gb, off + m * 3 + 2, none⟩) hgs).trans m2⟩
    replace hcells := Lib.hid hcells
    refine hK.out _ _ ?_ (fun hS2 => ?_)
    · refine ⟨S4.out.cell (i := 2) rfl (o := 0) rfl, S4.out.cell (i := 1) rfl (o := 1) rfl, hcells.out _ ?_⟩
      have hB := bal (bdr (bb (w.alloc (.cells #[.int .i64 4, .int .i64 (m : Int), .int .i64 b] 41)))) (.cells #[.int .i64 0, .int .i64 0, .int .i64 0] 41)
      rw [World.size_alloc] at hB
      first | exact hB | exact bal (bb _) _
    clear hK hSc
    (try simp only [put_rules])
    have z0 := S4.out.cell (i := 0) rfl (o := 0) rfl
    have z1 := S4.out.cell (i := 0) rfl (o := 1) rfl
    have z2 := S4.out.cell (i := 0) rfl (o := 2) rfl
    have v0 := S4.out.frozen (i := 0) rfl 0
    have v1 := S4.out.frozen (i := 0) rfl 1
    have v2 := S4.out.frozen (i := 0) rfl 2
    (refine wpAnyH_ready (rs := [9]) (by kernel_rfl) (by simp) ?_; refine AllReadyH.cons rfl (fun K hK => ?_) AllReadyH.nil)
    go_simp
    have S5 := (S3.out.alloc_box #[.int .i64 qk, .int .i64 qa, .int .i64 qb] 41).drew
    have hB5 := bdr (bal (bb (w.alloc (.cells #[.int .i64 4, .int .i64 (m : Int), .int .i64 b] 41))) (.cells #[.int .i64 qk, .int .i64 qa, .int .i64 qb] 41))
    rw [World.size_alloc] at hB5
    have hc5 := hcells.out _ hB5
    refine hK.out _ _ ?_ (fun _ => ?_)
    · exact ⟨S5.cell (i := 2) rfl (o := 0) rfl, S5.cell (i := 1) rfl (o := 1) rfl, hc5⟩
    clear hK S4 z0 z1 z2 v0 v1 v2 hcells
    (try simp only [put_rules])
    (refine wpAnyH_done (by kernel_rfl) ?_ _)
    simp only [World.size_alloc] at S5
    have k0 := S5.cell (i := 0) rfl (o := 0) rfl
    have k1 := S5.cell (i := 0) rfl (o := 1) rfl
    have S6 := Lib.hid S5.tail.tail
    replace S5 := Lib.hid S5
    clear S3 hc5 hB5 g1 e0 m0 m1 m2
    by_cases q2 : qk = 2
    · subst q2
      rw [if_pos rfl] at hP
      have hc := Lib.hid (hk3.out _ S6.out)
      rw [← hP.out] at hc
      clear hP S5 S6 hk2 hk3 hk4
      go_wp2_with fail
      refine hc.out.mono ?_
      rintro e w5 ⟨sv', rfl, HS5⟩
      replace HS5 := Lib.hid HS5
      clear hc
      go_wp2_with fail
      go_ret
      first | exact ⟨rfl, sv', HS5.out⟩ | exact ⟨sv', rfl, HS5.out⟩
    rw [if_neg q2] at hP
    by_cases q3 : qk = 3
    · subst q3
      rw [if_pos rfl] at hP
      have hc := Lib.hid (hk2.out _ S6.out)
      rw [← hP.out] at hc
      clear hP S5 S6 hk2 hk3 hk4
      go_wp2_with fail
      refine hc.out.mono ?_
      rintro e w5 ⟨sv', rfl, HS5⟩
      replace HS5 := Lib.hid HS5
      clear hc
      go_wp2_with fail
      go_ret
      first | exact ⟨rfl, sv', HS5.out⟩ | exact ⟨sv', rfl, HS5.out⟩
    rw [if_neg q3] at hP
    by_cases q4 : qk = 4
    · subst q4
      rw [if_pos rfl] at hP
      have hqa : ((qa.toNat : Nat) : Int) = qa := by have := hma.out; omega
      obtain ⟨r, rfl⟩ : ∃ r : Nat, qa = r := ⟨qa.toNat, hqa.symm⟩
      rw [Int.toNat_natCast] at hP
      have hR := hP.out
      subst hR
      clear hP hk2 hk3 hk4 hqa hma
      go_wp2_with fail
      go_ret
      first | exact ⟨rfl, _, S6.out⟩ | exact ⟨_, rfl, S6.out⟩
    rw [if_neg q4] at hP
    have hc := Lib.hid (hk4.out _ S6.out)
    rw [← hP.out] at hc
    clear hP S5 S6 hk2 hk3 hk4
    go_wp2_with fail
    refine hc.out.mono ?_
    rintro e w5 ⟨sv', rfl, HS5⟩
    replace HS5 := Lib.hid HS5
    clear hc
    go_wp2_with fail
    go_ret
    first | exact ⟨rfl, sv', HS5.out⟩ | exact ⟨sv', rfl, HS5.out⟩
  by_cases h5 : k = 5
  · subst h5
    rw [if_neg h4, if_pos rfl] at hP
    have hc := Lib.hid (pair_any p sv M ⟨5, a, b⟩ 3 2 _ hok hl (by dsimp only; omega) (by dsimp only; omega) S3.tail)
    rw [← hP] at hc
    clear hP S3 HS hgi hg hM hok
    go_enter Try.func88, Try.ntmps88
    go_wp2_with fail
    refine hc.out.mono ?_
    rintro e w5 ⟨sv', rfl, HS5⟩
    replace HS5 := Lib.hid HS5
    go_wp2_with fail
    go_ret
    first | exact ⟨rfl, sv', HS5.out⟩ | exact ⟨sv', rfl, HS5.out⟩
  by_cases h6 : k = 6
  · subst h6
    rw [if_neg h4, if_neg h5, if_pos rfl] at hP
    have hc := Lib.hid (pair_any p sv M ⟨6, a, b⟩ 2 3 _ hok hl (by dsimp only; omega) (by dsimp only; omega) S3.tail)
    rw [← hP] at hc
    clear hP S3 HS hgi hg hM hok
    go_enter Try.func88, Try.ntmps88
    go_wp2_with fail
    refine hc.out.mono ?_
    rintro e w5 ⟨sv', rfl, HS5⟩
    replace HS5 := Lib.hid HS5
    go_wp2_with fail
    go_ret
    first | exact ⟨rfl, sv', HS5.out⟩ | exact ⟨sv', rfl, HS5.out⟩
  rw [if_neg h4, if_neg h5, if_neg h6] at hP
  have hc := Lib.hid (keep_any p sv M ⟨k, a, b⟩ _ hok hl S3.tail)
  rw [← hP] at hc
  clear hP S3 HS hgi hg hM hok
  go_enter Try.func88, Try.ntmps88
  go_wp2_with fail
  refine hc.out.mono ?_
  rintro e w5 ⟨sv', rfl, HS5⟩
  replace HS5 := Lib.hid HS5
  go_wp2_with fail
  go_ret
  first | exact ⟨rfl, sv', HS5.out⟩ | exact ⟨sv', rfl, HS5.out⟩
end Go.Proofs.Ytkhopkonddgicaa

/- Plain facts: pushing negations keeps the values. No program in sight. -/
namespace Go.Proofs.Ytkhopkonddgicaa

def dualK (k : Int) : Int := if k = 5 then 6 else if k = 6 then 5 else if k = 2 then 3 else if k = 3 then 2 else k
/-- The gates, and for each gate the number for its value and for the opposite one. -/
structure PSt where
  out : List Gt
  same : List Nat
  other : List Nat
def pushG (s : PSt) (g : Gt) : PSt :=
  if g.k = 4 then ⟨s.out, s.same ++ [s.other.getD g.a.toNat 0], s.other ++ [s.same.getD g.a.toNat 0]⟩
  else if g.k = 1 then ⟨s.out ++ [mvG (fun k => s.same.getD k 0) g] ++ [⟨4, (s.out.length : Nat), 0⟩], s.same ++ [s.out.length], s.other ++ [s.out.length + 1]⟩
  else ⟨s.out ++ [mvG (fun k => s.same.getD k 0) g] ++ [mvG (fun k => s.other.getD k 0) ⟨dualK g.k, g.a, g.b⟩], s.same ++ [s.out.length], s.other ++ [s.out.length + 1]⟩
def pushesG (gs : List Gt) : PSt := gs.foldl pushG ⟨[], [], []⟩
theorem pushes_snoc (gs : List Gt) (g : Gt) : pushesG (gs ++ [g]) = pushG (pushesG gs) g := by simp [pushesG]
structure PInv (vars : Int) (gs : List Gt) (s : PSt) : Prop where
  n1 : s.same.length = gs.length
  n2 : s.other.length = gs.length
  len : s.out.length ≤ 2 * gs.length
  ok : OkG vars s.out
  lt1 : ∀ i, i < gs.length → s.same.getD i 0 < s.out.length
  lt2 : ∀ i, i < gs.length → s.other.getD i 0 < s.out.length
  val1 : ∀ i, i < gs.length → ∀ bits, gval bits s.out (s.same.getD i 0) = gval bits gs i
  val2 : ∀ i, i < gs.length → ∀ bits, gval bits s.out (s.other.getD i 0) = !gval bits gs i
theorem getD_old {l : List Nat} {r i n : Nat} (hn : l.length = n) (hi : i < n) : (l ++ [r]).getD i 0 = l.getD i 0 := by
  rw [List.getD_eq_getElem?_getD, List.getElem?_append_left (by omega), ← List.getD_eq_getElem?_getD]
theorem getD_new {l : List Nat} {r n : Nat} (hn : l.length = n) : (l ++ [r]).getD n 0 = r := by
  rw [List.getD_eq_getElem?_getD, ← hn, List.getElem?_concat_length]; rfl
/-- One gate more. -/
theorem PInv.more {vars : Int} {gs : List Gt} {g : Gt} {s : PSt} {out' : List Gt} {a b : Nat} (h : PInv vars gs s) (hp : ∃ ms, out' = s.out ++ ms) (hl : out'.length ≤ s.out.length + 2) (hok : OkG vars out') (ha : a < out'.length) (hb : b < out'.length)
    (va : ∀ bits, gval bits out' a = gval bits (gs ++ [g]) gs.length) (vb : ∀ bits, gval bits out' b = !gval bits (gs ++ [g]) gs.length) : PInv vars (gs ++ [g]) ⟨out', s.same ++ [a], s.other ++ [b]⟩ := by
  obtain ⟨ms, rfl⟩ := hp
  have n1 := h.n1
  have n2 := h.n2
  have hlen := h.len
  refine ⟨by simp; omega, by simp; omega, by dsimp only; rw [show (gs ++ [g]).length = gs.length + 1 by simp]; omega, hok, fun i hi => ?_, fun i hi => ?_, fun i hi bits => ?_, fun i hi bits => ?_⟩
  all_goals
    rw [List.length_append, List.length_singleton] at hi
    dsimp only
    by_cases e : i < gs.length
  · rw [getD_old n1 e, List.length_append]; have := h.lt1 i e; omega
  · obtain rfl : i = gs.length := by omega
    rw [getD_new n1]; exact ha
  · rw [getD_old n2 e, List.length_append]; have := h.lt2 i e; omega
  · obtain rfl : i = gs.length := by omega
    rw [getD_new n2]; exact hb
  · rw [getD_old n1 e, gval_pre (h.lt1 i e), gval_snoc e]; exact h.val1 i e bits
  · obtain rfl : i = gs.length := by omega
    rw [getD_new n1]; exact va bits
  · rw [getD_old n2 e, gval_pre (h.lt2 i e), gval_snoc e]; exact h.val2 i e bits
  · obtain rfl : i = gs.length := by omega
    rw [getD_new n2]; exact vb bits
theorem ins_dual (g : Gt) : insG ⟨dualK g.k, g.a, g.b⟩ = insG g := by
  unfold insG dualK
  dsimp only
  by_cases h5 : g.k = 5
  · simp [h5]
  by_cases h6 : g.k = 6
  · simp [h6]
  by_cases h2 : g.k = 2
  · simp [h2]
  by_cases h3 : g.k = 3
  · simp [h3]
  simp [h5, h6, h2, h3]
theorem dual_ok {vars : Int} {i : Nat} {g : Gt} (h : gtB vars i g = true) (h1 : g.k ≠ 1) (h4 : g.k ≠ 4) : gtB vars i ⟨dualK g.k, g.a, g.b⟩ = true := by
  rw [gtB_iff] at h ⊢
  unfold dualK
  dsimp only
  by_cases h5 : g.k = 5
  · rw [if_pos h5]; omega
  by_cases h6 : g.k = 6
  · rw [if_neg h5, if_pos h6]; omega
  by_cases h2 : g.k = 2
  · rw [if_neg h5, if_neg h6, if_pos h2]; omega
  by_cases h3 : g.k = 3
  · rw [if_neg h5, if_neg h6, if_neg h2, if_pos h3]; omega
  omega
theorem dual_val {vars : Int} {i bits : Nat} {g : Gt} {p q : Nat → Bool} (h : gtB vars i g = true) (h1 : g.k ≠ 1) (h4 : g.k ≠ 4) (hpq : ∀ k ∈ insG g, p k = !q k) : gv bits p ⟨dualK g.k, g.a, g.b⟩ = !gv bits q g := by
  rw [gtB_iff] at h
  unfold insG at hpq
  have hk : g.k = 2 ∨ g.k = 3 ∨ g.k = 5 ∨ g.k = 6 := by omega
  rcases hk with hk | hk | hk | hk
  · simp [gv, dualK, hk]
  · simp [gv, dualK, hk]
  · simp only [hk] at hpq
    simp [gv, dualK, hk, hpq]
  · simp only [hk] at hpq
    simp [gv, dualK, hk, hpq]
theorem pinv_snoc {vars : Int} {gs : List Gt} {g : Gt} {s : PSt} (h : PInv vars gs s) (hg : gtB vars gs.length g = true) : PInv vars (gs ++ [g]) (pushG s g) := by
  have hlt := ins_lt hg
  have hv : ∀ bits, gval bits (gs ++ [g]) gs.length = gv bits (gval bits gs) g := fun bits => gval_new bits gs g
  unfold pushG
  by_cases h4 : g.k = 4
  · rw [if_pos h4]
    have hia : g.a.toNat < gs.length := hlt _ (by unfold insG; rw [if_pos h4]; exact List.mem_singleton.2 rfl)
    have hgv : ∀ bits, gv bits (gval bits gs) g = !gval bits gs g.a.toNat := fun bits => by simp [gv, h4]
    exact h.more ⟨[], by simp⟩ (by omega) h.ok (h.lt2 _ hia) (h.lt1 _ hia) (fun bits => by rw [hv, hgv]; exact h.val2 _ hia bits) (fun bits => by rw [hv, hgv, Bool.not_not]; exact h.val1 _ hia bits)
  rw [if_neg h4]
  have hm : gtB vars s.out.length (mvG (fun k => s.same.getD k 0) g) = true := mv_ok hg fun k hk => h.lt1 k (hlt k hk)
  have hok1 := h.ok.snoc hm
  have hl1 : (s.out ++ [mvG (fun k => s.same.getD k 0) g]).length = s.out.length + 1 := by simp
  have hv1 : ∀ bits, gval bits (s.out ++ [mvG (fun k => s.same.getD k 0) g]) s.out.length = gv bits (gval bits gs) g := fun bits => by
    rw [gval_new]; exact mv_val fun k hk => h.val1 k (hlt k hk) bits
  by_cases h1 : g.k = 1
  · rw [if_pos h1]
    have hn : gtB vars (s.out ++ [mvG (fun k => s.same.getD k 0) g]).length ⟨4, (s.out.length : Nat), 0⟩ = true := by rw [hl1, gtB_iff]; dsimp only; omega
    refine h.more ⟨[mvG (fun k => s.same.getD k 0) g, ⟨4, (s.out.length : Nat), 0⟩], by simp⟩ (by simp) (hok1.snoc hn) (by simp) (by simp) (fun bits => ?_) (fun bits => ?_)
    · rw [gval_snoc (by omega), hv1, hv]
    · have := gval_new bits (s.out ++ [mvG (fun k => s.same.getD k 0) g]) ⟨4, (s.out.length : Nat), 0⟩
      rw [hl1] at this
      rw [this, hv, ← hv1]; simp [gv]
  · rw [if_neg h1]
    have hd : gtB vars (s.out ++ [mvG (fun k => s.same.getD k 0) g]).length (mvG (fun k => s.other.getD k 0) ⟨dualK g.k, g.a, g.b⟩) = true := by
      refine mv_ok (dual_ok hg h1 h4) fun k hk => ?_
      rw [ins_dual] at hk
      rw [hl1]
      have := h.lt2 k (hlt k hk)
      omega
    refine h.more ⟨[mvG (fun k => s.same.getD k 0) g, mvG (fun k => s.other.getD k 0) ⟨dualK g.k, g.a, g.b⟩], by simp⟩ (by simp) (hok1.snoc hd) (by simp) (by simp) (fun bits => ?_) (fun bits => ?_)
    · rw [gval_snoc (by omega), hv1, hv]
    · have := gval_new bits (s.out ++ [mvG (fun k => s.same.getD k 0) g]) (mvG (fun k => s.other.getD k 0) ⟨dualK g.k, g.a, g.b⟩)
      rw [hl1] at this
      rw [this, hv]
      rw [mv_val (q := fun k => !gval bits gs k) fun k hk => ?_]
      · exact dual_val hg h1 h4 fun k _ => rfl
      · rw [ins_dual] at hk
        rw [gval_snoc (h.lt2 k (hlt k hk))]
        exact h.val2 k (hlt k hk) bits
theorem pinv {vars : Int} : ∀ (gs : List Gt), OkG vars gs → PInv vars gs (pushesG gs) := by
  intro gs
  induction gs using snoc_ind with
  | h0 => intro _; exact ⟨rfl, rfl, Nat.le_refl _, fun i hi => absurd hi (by simp [pushesG]), fun i hi => absurd hi (by simp), fun i hi => absurd hi (by simp), fun i hi => absurd hi (by simp), fun i hi => absurd hi (by simp)⟩
  | h1 gs g ih =>
    intro h
    have h1 : OkG vars gs := by
      have := h.take gs.length
      rwa [List.take_left] at this
    have h2 : gtB vars gs.length g = true := by
      have := h gs.length (by simp)
      rwa [List.getElem_concat_length rfl] at this
    rw [pushes_snoc]
    exact pinv_snoc (ih h1) h2
end Go.Proofs.Ytkhopkonddgicaa

/- Contracts: the dual kind; the closures that look a number up. -/
namespace Go.Proofs.Ytkhopkonddgicaa
open Go.RowKit

theorem dualKind_any (k : Int) (w : World) : Calls Try.prog 53 #[.int .i64 k] w fun e w' => e = .returned (.int .i64 (dualK k)) ∧ w = w' := by
  unfold dualK
  by_cases h5 : k = 5
  · subst h5
    go_enter Try.func53, Try.ntmps53
    go_wp2_with fail
    go_ret
    exact ⟨rfl, rfl⟩
  by_cases h6 : k = 6
  · subst h6
    go_enter Try.func53, Try.ntmps53
    go_wp2_with fail
    go_ret
    exact ⟨rfl, rfl⟩
  by_cases h2 : k = 2
  · subst h2
    go_enter Try.func53, Try.ntmps53
    go_wp2_with fail
    go_ret
    exact ⟨rfl, rfl⟩
  by_cases h3 : k = 3
  · subst h3
    go_enter Try.func53, Try.ntmps53
    go_wp2_with fail
    go_ret
    exact ⟨rfl, rfl⟩
  rw [if_neg h5, if_neg h6, if_neg h2, if_neg h3]
  go_enter Try.func53, Try.ntmps53
  go_wp2_with fail
  go_ret
  exact ⟨rfl, rfl⟩

theorem foldLook_any (b g n c k : Nat) (x : Int) (hk : k < n) (w : World) (h0 : w.cell? ⟨b, 0, none⟩ = some (.slice (some ⟨g, 0, none⟩) n c)) (h1 : w.cell? ⟨g, k, none⟩ = some (.int .i64 x)) :
    Calls Try.prog 89 #[.int .i64 k, .pointer (some ⟨b, 0, none⟩)] w fun e w' => e = .returned (.int .i64 x) ∧ Below w.heap.size w w' := by
  have hkl : (k : Int) < n := by omega
  go_enter Try.func89, Try.ntmps89
  go_wp2_with fail
  go_ret
  exact ⟨rfl, bb _⟩

theorem sameLook_any (b g n c k : Nat) (x : Int) (hk : k < n) (w : World) (h0 : w.cell? ⟨b, 0, none⟩ = some (.slice (some ⟨g, 0, none⟩) n c)) (h1 : w.cell? ⟨g, k, none⟩ = some (.int .i64 x)) :
    Calls Try.prog 52 #[.int .i64 k, .pointer (some ⟨b, 0, none⟩)] w fun e w' => e = .returned (.int .i64 x) ∧ Below w.heap.size w w' := by
  have hkl : (k : Int) < n := by omega
  go_enter Try.func52, Try.ntmps52
  go_wp2_with fail
  go_ret
  exact ⟨rfl, bb _⟩

theorem otherLook_any (b g n c k : Nat) (x : Int) (hk : k < n) (w : World) (h0 : w.cell? ⟨b, 0, none⟩ = some (.slice (some ⟨g, 0, none⟩) n c)) (h1 : w.cell? ⟨g, k, none⟩ = some (.int .i64 x)) :
    Calls Try.prog 54 #[.int .i64 k, .pointer (some ⟨b, 0, none⟩)] w fun e w' => e = .returned (.int .i64 x) ∧ Below w.heap.size w w' := by
  have hkl : (k : Int) < n := by omega
  go_enter Try.func54, Try.ntmps54
  go_wp2_with fail
  go_ret
  exact ⟨rfl, bb _⟩
end Go.Proofs.Ytkhopkonddgicaa

/- Contract: the folded circuit. -/
namespace Go.Proofs.Ytkhopkonddgicaa
open Go.RowKit

/-- Numbers that fill a block. -/
def numsA (n : Nat) (f : Nat → Nat) : Array Value := ((List.range n).map fun j => Value.int .i64 (f j : Nat)).toArray
theorem numsA_get {n m : Nat} {f : Nat → Nat} (h : m < n) : (numsA n f)[m]? = some (.int .i64 (f m : Nat)) := by simp [numsA, h]
theorem numsA_congr {n : Nat} {f g : Nat → Nat} (h : ∀ j, j < n → f j = g j) : numsA n f = numsA n g := by
  unfold numsA
  congr 1
  exact List.map_congr_left fun j hj => by rw [h j (List.mem_range.1 hj)]
theorem numsA_set (n m : Nat) (f : Nat → Nat) (x : Nat) : (numsA n f).setIfInBounds m (.int .i64 x) = numsA n (fun j => if j = m then x else f j) := by
  unfold numsA
  rw [List.setIfInBounds_toArray]
  congr 1
  apply List.ext_getElem?
  intro j
  rw [List.getElem?_set]
  by_cases hj : j < n
  · by_cases e : m = j
    · subst e; simp [hj]
    · simp [hj, e, Ne.symm e]
  · simp [hj]
    intro e
    omega
theorem numsA_made (n : Nat) : madeCells #[.int .i64 0] n = numsA n (fun _ => 0) := by
  apply Array.ext'
  rw [toList_madeCells_one]
  unfold numsA
  apply List.ext_getElem?
  intro j
  by_cases h : j < n
  · simp [h]
  · simp [h]

set_option maxRecDepth 100000 in
theorem mk_nums (k : Nat) (hk : k ≤ 1000000) (x : Int) (hx : x = k) (w : World) :
    (Instr.makeSlice 45 (.int .i64 x) (.int .i64 x)).run Try.prog w = .ok (.slice (some ⟨w.heap.size, 0, none⟩) k k) (w.alloc (.cells (numsA k fun _ => 0) 3)) := by
  obtain ⟨i, hi, h1, h2, h3⟩ : ∃ i, Try.prog.info? 3 = some i ∧ i.zero = some (.int .i64 0) ∧ i.size = 1 ∧ i.bytes = 8 := ⟨_, rfl, by kernel_rfl, by kernel_rfl, by kernel_rfl⟩
  subst hx
  have := run_make w 45 3 i (.int .i64 0) Try.underlying45 hi h1 .i64 .i64 (k : Int) (k : Int) (by omega) (by omega) (by rw [h3]; omega) (by omega)
  rw [h2] at this
  rw [← numsA_made]
  simpa [Value.cells] using this

/-- What the kept gates are cut to. -/
def cutK (s : List Gt × List Nat) (n : Nat) : List Gt := s.1.take (s.2.getD (n - 1) 0 + 1)
/-- The folded circuit. -/
def foldR (gs : List Gt) : List Gt := trimG (cutK (foldsG gs) gs.length) (needL (cutK (foldsG gs) gs.length))
theorem own_cap {w : World} {B : Nat} {e : TypeId} {n c size : Nat} {A : Option Addr} {cs : List Value} (h : w.ownsRow B e size (.slice A n c) n cs) : n ≤ c := by
  obtain ⟨_, ⟨e1, h0⟩ | ⟨g, cap, cur, e1, _, _, hc, _⟩⟩ := h
  · cases e1; omega
  · cases e1; omega

/-- What lies in memory while gates are folded. -/
abbrev FcSp (w : World) (n : Nat) (s : List Gt × List Nat) (sv : Value) (W : World) : Prop :=
  Sp w W [Box w.heap.size 91 #[sv], Own 41 3 sv s.1.length (s.1.flatMap gtEnc), Box (w.heap.size + 1) 3 (numsA n (fun j => s.2.getD j 0)), Box (w.heap.size + 1 + 1) 45 #[.slice (some ⟨w.heap.size + 1, 0, none⟩) n n]]
theorem folds_take {gs : List Gt} {q : Nat} (h : q < gs.length) : foldsG (gs.take (q + 1)) = ((foldG (foldsG (gs.take q)).1 (mvG (fun k => (foldsG (gs.take q)).2.getD k 0) gs[q])).1, (foldsG (gs.take q)).2 ++ [(foldG (foldsG (gs.take q)).1 (mvG (fun k => (foldsG (gs.take q)).2.getD k 0) gs[q])).2]) := by
  rw [List.take_succ_eq_append_getElem h, folds_snoc]

set_option maxRecDepth 100000 in
set_option maxHeartbeats 16000000 in
theorem foldCircuit_any {vars : Int} (A : Option Addr) (c : Nat) (gs : List Gt) (w : World) (hx : GtAt w A gs) (hg : OkG vars gs) (hp : 0 < gs.length) (hl : gs.length ≤ 1000) (hv : vars ≤ 1000) :
    Calls Try.prog 48 #[.slice A gs.length c] w fun e w' => ∃ v, e = .returned v ∧ Sp w w' [Own 41 3 v (foldR gs).length ((foldR gs).flatMap gtEnc)] := by
  have hmk := fun W => mk_nums gs.length (by omega) (gs.length : Int) rfl W
  obtain ⟨Z, hZ⟩ : ∃ Z, numsA gs.length (fun _ => 0) = Z := ⟨_, rfl⟩
  rw [hZ] at hmk
  have S1 := (((Sp.start w).alloc_box #[.slice none 0 0] 91).alloc_box Z 3).alloc_box #[.slice (some ⟨w.heap.size + 1, 0, none⟩) gs.length gs.length] 45
  simp only [World.size_alloc] at S1
  have S2 := (S1.own_nil 41 3).pick [3, 0, 1, 0] rfl
  have hZ2 : numsA gs.length (fun j => (foldsG (gs.take 0)).2.getD j 0) = Z := by
    rw [← hZ]
    exact numsA_congr fun j _ => by simp [foldsG]
  replace hZ2 := Lib.hid hZ2
  replace S2 := Lib.hid S2
  have eg : Enter1 89 := enters_of Try.func89 (by kernel_rfl) rfl
  replace eg := Lib.hid eg
  have hX := Lib.hid hx
  replace hg := Lib.hid hg
  clear S1 hZ hx
  go_enter Try.func48, Try.ntmps48
  go_wp2_with fail
  go_loopw [14] (fun i wr => ∃ (q : Nat) (sv : Value), q ≤ gs.length ∧ i = .int .i64 q ∧ Hid (FcSp w gs.length (foldsG (gs.take q)) sv wr)) (fun i _ => gs.length - (intOf i).toNat)
  case atStart =>
    refine ⟨0, .slice none 0 0, Nat.zero_le _, rfl, ?_⟩
    unfold Hid FcSp
    rw [hZ2.out]
    exact S2.out
  case round =>
    obtain ⟨q, sv, hq, rfl, hS⟩ := hrel
    by_cases hlt : q < gs.length
    · have hqi : (q : Int) < gs.length := by omega
      have hF := finv (gs.take q) (hg.out.take q)
      have hst := folds_take hlt
      have hX2 := hX.out.grow hS.out.below
      obtain ⟨bg, og, e, m0, m1, m2⟩ := hX2.at_ q hlt
      cases e
      have hgq := hg.out q hlt
      have hlt2 := ins_lt hgq
      have hgi := gtB_iff.1 hgq
      have hl2 : (gs.take q).length = q := by rw [List.length_take]; omega
      generalize foldsG (gs.take q) = s at hS hF hst
      obtain ⟨M, B⟩ := s
      generalize gs[q] = g at m0 m1 m2 hst hgq hlt2 hgi
      dsimp only at hst
      have hFn := hF.n
      have hFl := hF.len
      have hFt := hF.lt
      have hFo := hF.ok
      rw [hl2] at hFn hFl hFt
      dsimp only at hFn hFl hFt hFo
      unfold FcSp at hS
      dsimp only at hS
      have S3 := hS.out.alloc_box #[.int .i64 g.k, .int .i64 g.a, .int .i64 g.b] 41
      have d0 := S3.cell (i := 0) rfl (o := 0) rfl
      have d1 := S3.cell (i := 0) rfl (o := 1) rfl
      have d2 := S3.cell (i := 0) rfl (o := 2) rfl
      have d4 := S3.cell (i := 4) rfl (o := 0) rfl
      replace S3 := S3.drew
      have d5 := S3.cell (i := 4) rfl (o := 0) rfl
      have hmv := Lib.hid (moved_any (cb := #[.pointer (some ⟨w.heap.size + 1 + 1, 0, none⟩)]) eg.out (fun k => B.getD k 0) g (fun k hk => by have := hlt2 k hk; omega) (by omega) (by omega) _ (fun k hk W hW => foldLook_any (w.heap.size + 1 + 1) (w.heap.size + 1) gs.length gs.length k ((B.getD k 0 : Nat) : Int) (by have := hlt2 k hk; omega) W ((hW.cell (p := ⟨w.heap.size + 1 + 1, 0, none⟩) (S3.box (i := 4) rfl).2.1).trans d5) ((hW.cell (p := ⟨w.heap.size + 1, k, none⟩) (S3.box (i := 3) rfl).2.1).trans (S3.cell (i := 3) rfl (o := k) (numsA_get (by have := hlt2 k hk; omega))))))
      have hmg : gtB vars M.length (mvG (fun k => B.getD k 0) g) = true := mv_ok hgq fun k hk => hFt k (hlt2 k hk)
      generalize mvG (fun k => B.getD k 0) g = z at hmv hst hmg
      have hfo := Lib.hid (fun W ps h => fold_any (w0 := w) (ps := ps) w.heap.size sv M z W (gt_small hFo hv (by omega)) hFo (by omega) hmg h)
      generalize foldG M z = r at hst hfo
      obtain ⟨M', rr⟩ := r
      dsimp only at hst hfo
      replace hst := Lib.hid hst
      replace S3 := Lib.hid S3
      obtain ⟨gk, ga, gb⟩ := g
      dsimp only at m0 m1 m2 d0 d1 d2
      clear d5 hF hS hX2 hgi hlt2 hmg hFo hFt hgq S2 hZ2
      go_wp2_with fail
      refine wp_region_held_lit (S := (fun w' => w'.cell? ⟨w.heap.size + 1 + 1, 0, none⟩ = some (.slice (some ⟨w.heap.size + 1, 0, none⟩) gs.length gs.length) ∧ w'.cell? ⟨wr.heap.size, 0, none⟩ = some (.int .i64 gk) ∧ w'.cell? ⟨wr.heap.size, 1, none⟩ = some (.int .i64 ga) ∧ w'.cell? ⟨wr.heap.size, 2, none⟩ = some (.int .i64 gb))) 9 [false, false, false, false, false, false, false, false, false] (by kernel_rfl) (by kernel_rfl) (by kernel_rfl) ?_ ?_
      · exact ⟨d4, d0, d1, d2⟩
      intro hSc
      (refine wpAnyH_take (i := 0) (v := ?_) rfl (by kernel_rfl) (by kernel_rfl) (by kernel_rfl) (fun _ _ _ h => h) (Or.inl ⟨by rfl, ?_⟩) (by assumption) ?_; rotate_left; (focus (intro w hSw; (try dsimp only at hSw); go_simp; (try with_reducible rfl); done)); (try simp only [put_rules]))
      (refine wpAnyH_take (i := 1) (v := ?_) rfl (by kernel_rfl) (by kernel_rfl) (by kernel_rfl) (fun _ _ _ h => h) (Or.inl ⟨by rfl, ?_⟩) (by assumption) ?_; rotate_left; (focus (intro w hSw; (try dsimp only at hSw); go_simp; (try with_reducible rfl); done)); (try simp only [put_rules]))
      (refine wpAnyH_take (i := 2) (v := ?_) rfl (by kernel_rfl) (by kernel_rfl) (by kernel_rfl) (fun _ _ _ h => h) (Or.inl ⟨by rfl, ?_⟩) (by assumption) ?_; rotate_left; (focus (intro w hSw; (try dsimp only at hSw); go_simp; (try with_reducible rfl); done)); (try simp only [put_rules]))
      (refine wpAnyH_take (i := 3) (v := ?_) rfl (by kernel_rfl) (by kernel_rfl) (by kernel_rfl) (fun _ _ _ h => h) (Or.inl ⟨by rfl, ?_⟩) (by assumption) ?_; rotate_left; (focus (intro w hSw; (try dsimp only at hSw); go_simp; (try with_reducible rfl); done)); (try simp only [put_rules]))
      (refine wpAnyH_take (i := 4) (v := ?_) rfl (by kernel_rfl) (by kernel_rfl) (by kernel_rfl) (fun _ _ _ h => h) (Or.inl ⟨by rfl, ?_⟩) (by assumption) ?_; rotate_left; (focus (intro w hSw; (try dsimp only at hSw); go_simp; (try with_reducible rfl); done)); (try simp only [put_rules]))
      (refine wpAnyH_ready (rs := [5]) (by kernel_rfl) (by simp) ?_; refine AllReadyH.cons rfl (fun K hK => ?_) AllReadyH.nil)
      go_simp
      go_at_call 51
      refine hmv.out.mono ?_
      rintro e w2 ⟨rfl, hb2⟩
      have S4 := Lib.hid (S3.out.grow hb2)
      have hf2 := Lib.hid (hfo.out _ _ (S4.out.pick [1, 1, 0, 0, 0] rfl))
      clear hmv S3 hb2 hfo d0 d1 d2 d4 m0 m1 m2
      go_wp2_with fail
      refine hK.out _ _ ⟨S4.out.cell (i := 4) rfl (o := 0) rfl, S4.out.cell (i := 0) rfl (o := 0) rfl, S4.out.cell (i := 0) rfl (o := 1) rfl, S4.out.cell (i := 0) rfl (o := 2) rfl⟩ (fun hS2 => ?_)
      clear hK hSc S4
      (try simp only [put_rules])
      (refine wpAnyH_ready (rs := [6]) (by kernel_rfl) (by simp) ?_; refine AllReadyH.cons rfl (fun K hK => ?_) AllReadyH.nil)
      go_simp
      go_at_call 88
      refine hf2.out.mono ?_
      rintro e w3 ⟨sv', rfl, S5⟩
      unfold FoldSp at S5
      have t0 := S5.cell (i := 3) rfl (o := q) (numsA_get hlt)
      have t1 := S5.frozen (i := 3) rfl q
      replace S5 := Lib.hid S5
      clear hf2
      go_wp2_with fail
      refine hK.out _ _ ⟨S5.out.cell (i := 4) rfl (o := 0) rfl, S5.out.cell (i := 2) rfl (o := 0) rfl, S5.out.cell (i := 2) rfl (o := 1) rfl, S5.out.cell (i := 2) rfl (o := 2) rfl⟩ (fun hS3 => ?_)
      clear hK hS2
      (try simp only [put_rules])
      (refine wpAnyH_take (i := 7) (v := ?_) rfl (by kernel_rfl) (by kernel_rfl) (by kernel_rfl) (fun _ _ _ h => h) (Or.inl ⟨by rfl, ?_⟩) (by assumption) ?_; rotate_left; (focus (intro w hSw; (try dsimp only at hSw); go_simp; (try with_reducible rfl); done)); (try simp only [put_rules]))
      (refine wpAnyH_ready (rs := [8]) (by kernel_rfl) (by simp) ?_; refine AllReadyH.cons rfl (fun K hK => ?_) AllReadyH.nil)
      go_simp
      have S6 := S5.out.store (i := 3) rfl q (.int .i64 (rr : Nat))
      refine hK.out _ _ ⟨S6.cell (i := 4) rfl (o := 0) rfl, S6.cell (i := 2) rfl (o := 0) rfl, S6.cell (i := 2) rfl (o := 1) rfl, S6.cell (i := 2) rfl (o := 2) rfl⟩ (fun hS4 => ?_)
      have S7 := Lib.hid (S6.pick [0, 0, 1, 1] rfl)
      clear hK hS3 S5 S6 t0 t1
      (try simp only [put_rules])
      (refine wpAnyH_done (by kernel_rfl) ?_ _)
      clear hS4
      go_wp2_with fail
      go_roundw
      case rel =>
        refine ⟨q + 1, sv', by omega, by first | rfl | simp, ?_⟩
        unfold Hid FcSp
        rw [hst.out]
        have h := S7.out
        rw [numsA_set] at h
        rw [numsA_congr (g := fun j => (B ++ [rr]).getD j 0) (fun j _ => by
          by_cases e : j = q
          · subst e; rw [if_pos rfl, getD_new hFn]
          · rw [if_neg e]
            rcases Nat.lt_or_ge j q with h1 | h1
            · rw [getD_old hFn h1]
            · rw [List.getD_eq_getElem?_getD, List.getD_eq_getElem?_getD, List.getElem?_eq_none (by omega), List.getElem?_eq_none (by rw [List.length_append, List.length_singleton]; omega)])] at h
        exact h
      case measure => simp [intOf]; omega
    · obtain rfl : q = gs.length := by omega
      have hF := finv gs hg.out
      unfold FcSp at hS
      rw [List.take_length] at hS
      have hR : foldR gs = trimG (cutK (foldsG gs) gs.length) (needL (cutK (foldsG gs) gs.length)) := rfl
      unfold cutK at hR
      generalize foldsG gs = s at hS hF hR
      obtain ⟨M, B⟩ := s
      have hFl := hF.len
      have hFt := hF.lt (gs.length - 1) (by omega)
      have hFo := hF.ok
      dsimp only at hFl hFt hFo hR hS
      obtain ⟨aM, cM, e, hM⟩ := gt_own (hS.out.own (i := 1) rfl) (gt_small hFo hv (by omega))
      cases e
      have hcap := own_cap (hS.out.own (i := 1) rfl)
      obtain ⟨mb, mo, e, -, -, -⟩ := hM.at_ 0 (by omega)
      cases e
      obtain ⟨x, hx⟩ : ∃ x, B.getD (gs.length - 1) 0 = x := ⟨_, rfl⟩
      have t0 := hS.out.cell (i := 2) rfl (o := gs.length - 1) (numsA_get (by omega))
      rw [hx] at hFt hR t0
      obtain ⟨m, hm⟩ : ∃ m, gs.length - 1 = m := ⟨_, rfl⟩
      rw [hm] at t0
      have hmi : (m : Int) < gs.length := by omega
      have hw1 : IntKind.i64.wrap ((gs.length : Int) - 1) = (m : Int) := by rw [show (gs.length : Int) - 1 = m by omega]; exact IntWalk.i64_in _ (by omega)
      have hw2 : IntKind.i64.wrap ((x : Int) + 1) = ((x + 1 : Nat) : Int) := by rw [show (x : Int) + 1 = ((x + 1 : Nat) : Int) by omega]; exact IntWalk.i64_in _ (by omega)
      have hxc : (x : Int) + 1 ≤ cM := by omega
      have hx0 : (0 : Int) ≤ (x : Int) + 1 := by omega
      have htl : (M.take (x + 1)).length = x + 1 := by rw [List.length_take]; omega
      have htr := fun W (h : Below wr.heap.size wr W) => trim_any (some ⟨mb, mo, none⟩) cM (M.take (x + 1)) W ((hM.grow h).take (x + 1)) (hFo.take _) (by omega) (by omega) hv
      rw [htl, ← hR] at htr
      replace htr := Lib.hid htr
      have c0 := hS.out.cell (i := 0) rfl (o := 0) rfl
      have c1 := hS.out.cell (i := 3) rfl (o := 0) rfl
      replace hm := Lib.hid hm
      clear hF hFt hFo hR hM htl S2 hZ2
      go_wp2_with fail
      refine wp_region_held_lit (S := (fun w' => w'.cell? ⟨w.heap.size, 0, none⟩ = some (.slice (some ⟨mb, mo, none⟩) M.length cM) ∧ w'.cell? ⟨w.heap.size + 1 + 1, 0, none⟩ = some (.slice (some ⟨w.heap.size + 1, 0, none⟩) gs.length gs.length) ∧ w'.cell? ⟨w.heap.size + 1, m, none⟩ = some (.int .i64 (x : Int)))) 14 [false, false, false, false, false, false, false, false, false, false, false, false, false, false] (by kernel_rfl) (by kernel_rfl) (by kernel_rfl) ?_ ?_
      · exact ⟨c0, c1, t0⟩
      intro hSc
      (refine wpAnyH_take (i := 0) (v := ?_) rfl (by kernel_rfl) (by kernel_rfl) (by kernel_rfl) (fun _ _ _ h => h) (Or.inl ⟨by rfl, ?_⟩) (by assumption) ?_; rotate_left; (focus (intro w hSw; (try dsimp only at hSw); go_simp; (try with_reducible rfl); done)); (try simp only [put_rules]))
      (refine wpAnyH_take (i := 1) (v := ?_) rfl (by kernel_rfl) (by kernel_rfl) (by kernel_rfl) (fun _ _ _ h => h) (Or.inl ⟨by rfl, ?_⟩) (by assumption) ?_; rotate_left; (focus (intro w hSw; (try dsimp only at hSw); go_simp; (try with_reducible rfl); done)); (try simp only [put_rules]))
      (refine wpAnyH_take (i := 2) (v := ?_) rfl (by kernel_rfl) (by kernel_rfl) (by kernel_rfl) (fun _ _ _ h => h) (Or.inl ⟨by rfl, ?_⟩) (by assumption) ?_; rotate_left; (focus (intro w hSw; (try dsimp only at hSw); go_simp; (try with_reducible rfl); done)); (try simp only [put_rules]))
      (refine wpAnyH_take (i := 3) (v := ?_) rfl (by kernel_rfl) (by kernel_rfl) (by kernel_rfl) (fun _ _ _ h => h) (Or.inl ⟨by rfl, ?_⟩) (by assumption) ?_; rotate_left; (focus (intro w hSw; (try dsimp only at hSw); go_simp; (try with_reducible rfl); done)); (try simp only [put_rules]))
      (refine wpAnyH_take (i := 4) (v := ?_) rfl (by kernel_rfl) (by kernel_rfl) (by kernel_rfl) (fun _ _ _ h => h) (Or.inl ⟨by rfl, ?_⟩) (by assumption) ?_; rotate_left; (focus (intro w hSw; (try dsimp only at hSw); go_simp; (try with_reducible rfl); done)); (try simp only [put_rules]))
      (refine wpAnyH_take (i := 5) (v := ?_) rfl (by kernel_rfl) (by kernel_rfl) (by kernel_rfl) (fun _ _ _ h => h) (Or.inl ⟨by rfl, ?_⟩) (by assumption) ?_; rotate_left; (focus (intro w hSw; (try dsimp only at hSw); go_simp; (try with_reducible rfl); done)); (try simp only [put_rules]))
      (refine wpAnyH_take (i := 6) (v := ?_) rfl (by kernel_rfl) (by kernel_rfl) (by kernel_rfl) (fun _ _ _ h => h) (Or.inl ⟨by rfl, ?_⟩) (by assumption) ?_; rotate_left; (focus (intro w hSw; (try dsimp only at hSw); go_simp; (try with_reducible rfl); done)); (try simp only [put_rules]))
      (refine wpAnyH_take (i := 7) (v := ?_) rfl (by kernel_rfl) (by kernel_rfl) (by kernel_rfl) (fun _ _ _ h => h) (Or.inl ⟨by rfl, ?_⟩) (by assumption) ?_; rotate_left; (focus (intro w hSw; (try dsimp only at hSw); go_simp; (try with_reducible rfl); done)); (try simp only [put_rules]))
      (refine wpAnyH_take (i := 8) (v := ?_) rfl (by kernel_rfl) (by kernel_rfl) (by kernel_rfl) (fun _ _ _ h => h) (Or.inl ⟨by rfl, ?_⟩) (by assumption) ?_; rotate_left; (focus (intro w hSw; (try dsimp only at hSw); go_simp; (try with_reducible rfl); done)); (try simp only [put_rules]))
      (refine wpAnyH_take (i := 9) (v := ?_) rfl (by kernel_rfl) (by kernel_rfl) (by kernel_rfl) (fun _ _ _ h => h) (Or.inl ⟨by rfl, ?_⟩) (by assumption) ?_; rotate_left; (focus (intro w hSw; (try dsimp only at hSw); go_simp; (try with_reducible rfl); done)); (try simp only [put_rules]))
      (refine wpAnyH_take (i := 10) (v := ?_) rfl (by kernel_rfl) (by kernel_rfl) (by kernel_rfl) (fun _ _ _ h => h) (Or.inl ⟨by rfl, ?_⟩) (by assumption) ?_; rotate_left; (focus (intro w hSw; (try dsimp only at hSw); go_simp; (try with_reducible rfl); done)); (try simp only [put_rules]))
      (refine wpAnyH_take (i := 11) (v := ?_) rfl (by kernel_rfl) (by kernel_rfl) (by kernel_rfl) (fun _ _ _ h => h) (Or.inl ⟨by rfl, ?_⟩) (by assumption) ?_; rotate_left; (focus (intro w hSw; (try dsimp only at hSw); go_simp; (try with_reducible rfl); done)); (try simp only [put_rules]))
      have S3 := Lib.hid hS.out.drew
      have htr2 := Lib.hid (htr.out _ (bdr (bb wr)))
      clear htr hS c0 c1 t0
      (refine wpAnyH_ready (rs := [12]) (by kernel_rfl) (by simp) ?_; refine AllReadyH.cons rfl (fun K hK => ?_) AllReadyH.nil)
      go_simp
      go_at_call 55
      refine htr2.out.mono ?_
      rintro e w2 ⟨v, rfl, S4⟩
      have S5 := Lib.hid (S3.out.seq S4)
      clear htr2 S3 S4
      go_wp2_with fail
      refine hK.out _ _ ⟨S5.out.cell (i := 1) rfl (o := 0) rfl, S5.out.cell (i := 4) rfl (o := 0) rfl, by rw [← hx, ← hm.out]; exact S5.out.cell (i := 3) rfl (o := gs.length - 1) (numsA_get (by omega))⟩ (fun hS3 => ?_)
      clear hK hSc
      (try simp only [put_rules])
      (refine wpAnyH_take (i := 13) (v := ?_) rfl (by kernel_rfl) (by kernel_rfl) (by kernel_rfl) (fun _ _ _ h => h) (Or.inl ⟨by rfl, ?_⟩) (by assumption) ?_; rotate_left; (focus (intro w hSw; (try dsimp only at hSw); go_simp; (try with_reducible rfl); done)); (try simp only [put_rules]))
      (refine wpAnyH_done (by kernel_rfl) ?_ _)
      clear hS3
      go_wp2_with fail
      go_ret
      exact ⟨_, rfl, S5.out.pick [0] rfl⟩
end Go.Proofs.Ytkhopkonddgicaa

/- Plain facts: needed gates as a filter; how small a folded circuit is. No program in sight. -/
namespace Go.Proofs.Ytkhopkonddgicaa

theorem ascN_ext : ∀ {l l' : List Nat}, l.Pairwise (· < ·) → l'.Pairwise (· < ·) → (∀ x, x ∈ l ↔ x ∈ l') → l = l'
  | [], [], _, _, _ => rfl
  | [], b :: l', _, _, h => absurd ((h b).2 (by simp)) (by simp)
  | a :: l, [], _, _, h => absurd ((h a).1 (by simp)) (by simp)
  | a :: l, b :: l', h1, h2, h => by
    rw [List.pairwise_cons] at h1 h2
    have hab : a = b := by
      rcases List.mem_cons.1 ((h a).1 (by simp)) with e | e
      · exact e
      · rcases List.mem_cons.1 ((h b).2 (by simp)) with e' | e'
        · exact e'.symm
        · have := h2.1 a e
          have := h1.1 b e'
          omega
    subst hab
    congr 1
    refine ascN_ext h1.2 h2.2 fun x => ⟨fun hx => ?_, fun hx => ?_⟩
    · rcases List.mem_cons.1 ((h x).1 (by simp [hx])) with e | e
      · subst e; have := h1.1 x hx; omega
      · exact e
    · rcases List.mem_cons.1 ((h x).2 (by simp [hx])) with e | e
      · subst e; have := h2.1 x hx; omega
      · exact e
theorem rangeN_asc (n : Nat) : (List.range n).Pairwise (· < ·) := List.pairwise_lt_range
/-- Whether a gate is needed. -/
def needB (gs : List Gt) : Nat → Bool := (needF gs (downN gs.length)).1
theorem needL_filter {vars : Int} {gs : List Gt} (hg : OkG vars gs) (hp : 0 < gs.length) : needL gs = (List.range gs.length).filter (needB gs) := by
  have h := need_inv hg hp
  refine ascN_ext (need_needs hg hp).1.asc (List.Pairwise.filter _ (rangeN_asc _)) fun x => ?_
  unfold needL needB
  rw [List.mem_reverse, h.mem, List.mem_filter, List.mem_range]
  constructor
  · rintro ⟨_, h2⟩; exact ⟨h.lt x h2, h2⟩
  · rintro ⟨_, h2⟩; exact ⟨Nat.zero_le _, h2⟩
theorem idx_filter {f : Nat → Bool} {n k : Nat} (hk : k < n) (hf : f k = true) : ((List.range n).filter f).idxOf k = ((List.range k).filter f).length := by
  obtain ⟨d, rfl⟩ : ∃ d, n = k + 1 + d := ⟨n - (k + 1), by omega⟩
  have e : List.range (k + 1 + d) = List.range k ++ (k :: (List.range d).map (k + 1 + ·)) := by
    rw [List.range_add, List.range_succ, List.append_assoc]; rfl
  rw [e, List.filter_append, List.filter_cons_of_pos hf, List.idxOf_append, if_neg (fun hm => by
    have := (List.mem_filter.1 hm).1
    rw [List.mem_range] at this
    omega)]
  simp
/-- How many below a number are needed. -/
def cntF (f : Nat → Bool) (k : Nat) : Nat := ((List.range k).filter f).length
theorem cntF_succ (f : Nat → Bool) (k : Nat) : cntF f (k + 1) = if f k then cntF f k + 1 else cntF f k := by
  unfold cntF
  rw [List.range_succ, List.filter_append]
  cases h : f k
  · simp [h]
  · simp [h]
theorem cntF_le (f : Nat → Bool) (k : Nat) : cntF f k ≤ k := Nat.le_trans (List.length_filter_le _ _) (by simp)
theorem mv_congr {f f' : Nat → Nat} {g : Gt} (h : ∀ k ∈ insG g, f k = f' k) : mvG f g = mvG f' g := by
  unfold insG at h
  unfold mvG
  by_cases h4 : g.k = 4
  · rw [if_pos h4] at h
    rw [if_pos h4, if_pos h4, h _ (by simp)]
  by_cases h5 : g.k = 5 ∨ g.k = 6
  · rw [if_neg h4, if_pos h5] at h
    rw [if_neg h4, if_neg h4, if_pos h5, if_pos h5, h _ (by simp), h g.b.toNat (by simp)]
  · rw [if_neg h4, if_neg h4, if_neg h5, if_neg h5]
/-- The gates that the reference has put out. -/
def trimT (gs : List Gt) (f : Nat → Bool) (q : Nat) : List Gt := ((List.range q).filter f).map fun i => mvG (cntF f) (gs.getD i ⟨0, 0, 0⟩)
theorem trimT_succ (gs : List Gt) (f : Nat → Bool) (q : Nat) : trimT gs f (q + 1) = if f q then trimT gs f q ++ [mvG (cntF f) (gs.getD q ⟨0, 0, 0⟩)] else trimT gs f q := by
  unfold trimT
  rw [List.range_succ, List.filter_append]
  cases h : f q
  · simp [h]
  · simp [h]
theorem trimT_len (gs : List Gt) (f : Nat → Bool) (q : Nat) : (trimT gs f q).length = cntF f q := by simp [trimT, cntF]
theorem trimT_all {vars : Int} {gs : List Gt} (hg : OkG vars gs) (hp : 0 < gs.length) : trimT gs (needB gs) gs.length = trimG gs (needL gs) := by
  have hN := (need_needs hg hp).1
  have hF := needL_filter hg hp
  unfold trimT trimG
  rw [← hF]
  refine List.map_congr_left fun i hi => mv_congr fun k hk => ?_
  have hk2 := hN.ins i hi k hk
  have hk3 : needB gs k = true := by rw [hF] at hk2; exact (List.mem_filter.1 hk2).2
  rw [hF, idx_filter (hN.lt k hk2) hk3]
  rfl
theorem needB_ins {vars : Int} {gs : List Gt} (hg : OkG vars gs) (hp : 0 < gs.length) {i : Nat} (hi : i < gs.length) (h : needB gs i = true) : ∀ k ∈ insG gs[i], needB gs k = true := by
  intro k hk
  have hN := (need_needs hg hp).1
  have hF := needL_filter hg hp
  have him : i ∈ needL gs := by rw [hF]; exact List.mem_filter.2 ⟨List.mem_range.2 hi, h⟩
  have hd : gs.getD i ⟨0, 0, 0⟩ = gs[i] := by rw [List.getD_eq_getElem?_getD, List.getElem?_eq_getElem hi]; rfl
  have := hN.ins i him k (by rw [hd]; exact hk)
  rw [hF] at this
  exact (List.mem_filter.1 this).2

/-- Why a gate is needed. -/
theorem need_why {vars : Int} {gs : List Gt} (hg : OkG vars gs) (hp : 0 < gs.length) : ∀ j ∈ needL gs, j = gs.length - 1 ∨ ∃ i ∈ needL gs, j ∈ insG (gs.getD i ⟨0, 0, 0⟩) := by
  have key : ∀ pre : List Nat, (∀ j, (needF gs pre).1 j = true → j = gs.length - 1 ∨ ∃ i ∈ (needF gs pre).2, j ∈ insG (gs.getD i ⟨0, 0, 0⟩)) := by
    intro pre
    induction pre using snoc_ind with
    | h0 => intro j hj; left; simpa [needF] using hj
    | h1 l a ih =>
      intro j hj
      rw [needF_snoc] at hj ⊢
      unfold needStep at hj ⊢
      cases ha : (needF gs l).1 a
      · rw [ha, if_neg (by decide)] at hj
        rw [if_neg (by decide)]
        exact ih j hj
      · rw [ha, if_pos rfl] at hj
        rw [if_pos rfl]
        simp only [Bool.or_eq_true, decide_eq_true_eq] at hj
        rcases hj with hj | hj
        · rcases ih j hj with h | ⟨i, hi, h⟩
          · exact .inl h
          · exact .inr ⟨i, List.mem_append.2 (.inl hi), h⟩
        · exact .inr ⟨a, List.mem_append.2 (.inr (by simp)), hj⟩
  intro j hj
  have h := need_inv hg hp
  unfold needL at hj ⊢
  rw [List.mem_reverse] at hj
  rcases key _ j ((h.mem j).1 hj).2 with h1 | ⟨i, hi, h1⟩
  · exact .inl h1
  · exact .inr ⟨i, List.mem_reverse.2 hi, h1⟩
end Go.Proofs.Ytkhopkonddgicaa

/- Contracts: the gates that a gate asks and a gate with other numbers, in the reference. -/
namespace Go.Proofs.Ytkhopkonddgicaa
open Go.RowKit

set_option maxRecDepth 100000 in
set_option maxHeartbeats 8000000 in
theorem l6Inputs_any (g : Gt) (ha : 0 ≤ g.a ∧ g.a ≤ 1000000) (hb : 0 ≤ g.b ∧ g.b ≤ 1000000) (w : World) :
    Calls Try.prog 100 #[gtV g] w fun e w' => ∃ A c, e = .returned (.slice A (insG g).length c) ∧ IntsAt w' A (natI (insG g)) ∧ Below w.heap.size w w' := by
  obtain ⟨k, a', b'⟩ := g
  dsimp only at ha hb
  obtain ⟨a, rfl⟩ : ∃ a : Nat, a' = a := ⟨a'.toNat, by omega⟩
  obtain ⟨b, rfl⟩ : ∃ b : Nat, b' = b := ⟨b'.toNat, by omega⟩
  have hB0 := Lib.hid (bal (bb w) (.cells #[.int .i64 k, .int .i64 (a : Int), .int .i64 (b : Int)] 41))
  by_cases h4 : k = 4
  · subst h4
    have hM : insG ⟨4, (a : Int), (b : Int)⟩ = [a] := by simp [insG]
    rw [hM]
    have S1 := ((Sp.start w).alloc_box #[.int .i64 4, .int .i64 (a : Int), .int .i64 (b : Int)] 41).alloc_box #[.int .i64 (a : Int)] 3
    simp only [World.size_alloc] at S1
    have k0 := S1.cell (i := 0) rfl (o := 0) rfl
    have hB1 := S1.below
    clear S1 hM
    go_enter Try.func100, Try.ntmps100
    go_wp2_with fail
    go_ret
    refine ⟨_, _, rfl, ⟨fun j hj => ⟨_, 0, rfl, ?_⟩, fun c hc => ?_⟩, hB1⟩
    · obtain rfl : j = 0 := by simp [natI] at hj; omega
      exact k0
    · simp [natI] at hc; subst hc; unfold I64; omega
  by_cases h5 : k = 5 ∨ k = 6
  · have hM : insG ⟨k, (a : Int), (b : Int)⟩ = [a, b] := by simp [insG, h4, h5]
    rw [hM]
    have S1 := ((Sp.start w).alloc_box #[.int .i64 k, .int .i64 (a : Int), .int .i64 (b : Int)] 41).alloc_box #[.int .i64 (a : Int), .int .i64 (b : Int)] 3
    simp only [World.size_alloc] at S1
    have k0 := S1.cell (i := 0) rfl (o := 0) rfl
    have k1 := S1.cell (i := 0) rfl (o := 1) rfl
    have hB1 := S1.below
    clear S1 hM h4
    rcases h5 with rfl | rfl
    all_goals
      go_enter Try.func100, Try.ntmps100
      go_wp2_with fail
      go_ret
      refine ⟨_, _, rfl, ⟨fun j hj => ⟨_, 0, rfl, ?_⟩, fun c hc => ?_⟩, hB1⟩
      · have : j = 0 ∨ j = 1 := by simp [natI] at hj; omega
        rcases this with rfl | rfl
        · exact k0
        · exact k1
      · simp [natI] at hc; rcases hc with rfl | rfl <;> unfold I64 <;> omega
  · have hM : insG ⟨k, (a : Int), (b : Int)⟩ = [] := by simp [insG, h4, h5]
    have h5' : k ≠ 5 := fun e => h5 (.inl e)
    have h6' : k ≠ 6 := fun e => h5 (.inr e)
    rw [hM]
    clear hM h5
    have hB1 := Lib.hid (bal hB0.out (.cells #[] 3))
    go_enter Try.func100, Try.ntmps100
    go_wp2_with fail
    go_ret
    exact ⟨_, _, rfl, .nil _ _, hB1.out⟩

set_option maxRecDepth 100000 in
set_option maxHeartbeats 8000000 in
theorem l6Moved_any (g : Gt) (tb off n c : Nat) (f : Nat → Nat) (ha : 0 ≤ g.a) (hb : 0 ≤ g.b) (w : World) (hT : ∀ k ∈ insG g, k < n ∧ w.cell? ⟨tb, off + k, none⟩ = some (.int .i64 (f k : Nat))) :
    Calls Try.prog 63 #[gtV g, .slice (some ⟨tb, off, none⟩) n c] w fun e w' => e = .returned (gtV (mvG f g)) ∧ Below w.heap.size w w' := by
  obtain ⟨k, a', b'⟩ := g
  obtain ⟨a, rfl⟩ : ∃ a : Nat, a' = a := ⟨a'.toNat, by dsimp only at ha; omega⟩
  obtain ⟨b, rfl⟩ : ∃ b : Nat, b' = b := ⟨b'.toNat, by dsimp only at hb; omega⟩
  have S0 := ((Sp.start w).alloc_box #[.int .i64 k, .int .i64 (a : Int), .int .i64 (b : Int)] 41).alloc_box #[.int .i64 0, .int .i64 0, .int .i64 0] 41
  simp only [World.size_alloc] at S0
  by_cases h4 : k = 4
  · subst h4
    have hM : mvG f ⟨4, (a : Int), (b : Int)⟩ = ⟨4, (f a : Nat), (b : Int)⟩ := by simp [mvG]
    obtain ⟨han, hca⟩ := hT a (by simp [insG])
    have hlt := World.block_lt_of_cell? _ _ hca
    have t0 := (S0.below.cell (p := ⟨tb, off + a, none⟩) hlt).trans hca
    have hani : (a : Int) < n := by omega
    have S5 := ((Sp.start w).alloc_box #[.int .i64 4, .int .i64 (f a : Nat), .int .i64 (b : Int)] 41).alloc_box #[.int .i64 4, .int .i64 (f a : Nat), .int .i64 (b : Int)] 41
    simp only [World.size_alloc] at S5
    have j0 := S5.cell (i := 0) rfl (o := 0) rfl
    have j1 := S5.cell (i := 0) rfl (o := 1) rfl
    have j2 := S5.cell (i := 0) rfl (o := 2) rfl
    have hB := S5.below
    rw [hM]
    clear hM hT ha hb S0 S5 hca
    go_enter Try.func63, Try.ntmps63
    go_wp2_with fail
    exact bodyPost_ret (v := gtV ⟨4, (f a : Nat), (b : Int)⟩) (by simp [results, Try.results63, go_sem, j0, j1, j2]) rfl ⟨rfl, hB⟩
  by_cases h5 : k = 5 ∨ k = 6
  · have hM : mvG f ⟨k, (a : Int), (b : Int)⟩ = ⟨k, (f a : Nat), (f b : Nat)⟩ := by simp [mvG, h4, h5]
    obtain ⟨han, hca⟩ := hT a (by simp [insG, h4, h5])
    obtain ⟨hbn, hcb⟩ := hT b (by simp [insG, h4, h5])
    have hlt := World.block_lt_of_cell? _ _ hca
    have t0 := (S0.below.cell (p := ⟨tb, off + a, none⟩) hlt).trans hca
    have S1 := ((Sp.start w).alloc_box #[.int .i64 k, .int .i64 (f a : Nat), .int .i64 (b : Int)] 41).alloc_box #[.int .i64 0, .int .i64 0, .int .i64 0] 41
    have t1 := (S1.below.cell (p := ⟨tb, off + b, none⟩) hlt).trans hcb
    have hani : (a : Int) < n := by omega
    have hbni : (b : Int) < n := by omega
    have S5 := ((Sp.start w).alloc_box #[.int .i64 k, .int .i64 (f a : Nat), .int .i64 (f b : Nat)] 41).alloc_box #[.int .i64 k, .int .i64 (f a : Nat), .int .i64 (f b : Nat)] 41
    simp only [World.size_alloc] at S5
    have j0 := S5.cell (i := 0) rfl (o := 0) rfl
    have j1 := S5.cell (i := 0) rfl (o := 1) rfl
    have j2 := S5.cell (i := 0) rfl (o := 2) rfl
    have hB := S5.below
    rw [hM]
    clear hM hT ha hb S0 S1 S5 hca hcb h4
    rcases h5 with rfl | rfl
    · go_enter Try.func63, Try.ntmps63
      go_wp2_with fail
      exact bodyPost_ret (v := gtV ⟨5, (f a : Nat), (f b : Nat)⟩) (by simp [results, Try.results63, go_sem, j0, j1, j2]) rfl ⟨rfl, hB⟩
    · go_enter Try.func63, Try.ntmps63
      go_wp2_with fail
      exact bodyPost_ret (v := gtV ⟨6, (f a : Nat), (f b : Nat)⟩) (by simp [results, Try.results63, go_sem, j0, j1, j2]) rfl ⟨rfl, hB⟩
  · have hM : mvG f ⟨k, (a : Int), (b : Int)⟩ = ⟨k, (a : Int), (b : Int)⟩ := by simp [mvG, h4, h5]
    have h5' : k ≠ 5 := fun e => h5 (.inl e)
    have h6' : k ≠ 6 := fun e => h5 (.inr e)
    rw [hM]
    clear hM hT ha hb h5
    have S5 := ((Sp.start w).alloc_box #[.int .i64 k, .int .i64 (a : Int), .int .i64 (b : Int)] 41).alloc_box #[.int .i64 k, .int .i64 (a : Int), .int .i64 (b : Int)] 41
    simp only [World.size_alloc] at S5
    have j0 := S5.cell (i := 0) rfl (o := 0) rfl
    have j1 := S5.cell (i := 0) rfl (o := 1) rfl
    have j2 := S5.cell (i := 0) rfl (o := 2) rfl
    have hB := S5.below
    clear S0 S5
    go_enter Try.func63, Try.ntmps63
    go_wp2_with fail
    exact bodyPost_ret (v := gtV ⟨k, (a : Int), (b : Int)⟩) (by simp [results, Try.results63, go_sem, j0, j1, j2]) rfl ⟨rfl, hB⟩
end Go.Proofs.Ytkhopkonddgicaa

/- Contract: which gates are needed, in the reference. -/
namespace Go.Proofs.Ytkhopkonddgicaa
open Go.RowKit

/-- What has been looked at when c rounds are over. -/
def dnN (n c : Nat) : List Nat := (comeF n c).map Fin.val
theorem dnN_zero (n : Nat) : dnN n 0 = [] := rfl
theorem dnN_succ {n c : Nat} (h : c < n) : dnN n (c + 1) = dnN n c ++ [n - 1 - c] := by unfold dnN; rw [comeF_succ h, List.map_append]; rfl
theorem dnN_all (n : Nat) : dnN n n = downN n := comeF_all n

set_option maxRecDepth 100000 in
set_option maxHeartbeats 8000000 in
theorem l6Needed_any {vars : Int} (A : Option Addr) (c : Nat) (gs : List Gt) (w : World) (hx : GtAt w A gs) (hg : OkG vars gs) (hp : 0 < gs.length) (hl : gs.length ≤ 1000) (hv : vars ≤ 1000) :
    Calls Try.prog 67 #[.slice A gs.length c] w fun e w' => e = .returned (.slice (some ⟨w.heap.size, 0, none⟩) gs.length gs.length) ∧ Sp w w' [Box w.heap.size 4 (boolsA gs.length (needB gs))] := by
  obtain ⟨m, hm⟩ : ∃ m, gs.length = m + 1 := ⟨gs.length - 1, by omega⟩
  have hw : IntKind.i64.wrap ((gs.length : Int) - 1) = (m : Int) := by rw [show (gs.length : Int) - 1 = m by omega]; exact IntWalk.i64_in _ (by omega)
  have hmi : (m : Int) < gs.length := by omega
  have hml : m < gs.length := by omega
  replace hm := Lib.hid hm
  have hmk := fun W => mk_bools gs.length (by omega) (gs.length : Int) rfl W
  obtain ⟨M, hM⟩ : ∃ M, boolsA gs.length (fun _ => false) = M := ⟨_, rfl⟩
  rw [hM] at hmk
  have S0 := (Sp.start w).alloc_box M 4
  have k0 := S0.cell (i := 0) rfl (o := m) (by rw [← hM]; exact boolsA_get hml)
  have k1 := S0.frozen (i := 0) rfl m
  have hM2 : M.setIfInBounds m (.bool true) = boolsA gs.length (needF gs (dnN gs.length 0)).1 := by
    rw [← hM, boolsA_set]
    refine boolsA_congr fun j _ => ?_
    have hm2 := hm.out
    by_cases e : j = m
    · simp [needF, dnN_zero, e, show m = gs.length - 1 by omega]
    · simp [needF, dnN_zero, e, show ¬ j = gs.length - 1 by omega]
  replace hM2 := Lib.hid hM2
  have S2 := Lib.hid ((Sp.start w).alloc_box (M.setIfInBounds m (.bool true)) 4)
  have hX := Lib.hid hx
  replace hg := Lib.hid hg
  clear S0 hM hx
  go_enter Try.func67, Try.ntmps67
  go_wp2_with fail
  clear k0 k1 hmk
  go_loopw [4] (fun i wr => ∃ (q : Nat) (z : Int), q ≤ gs.length ∧ i = .int .i64 z ∧ z = (gs.length : Int) - 1 - q ∧ Hid (Sp w wr [Box w.heap.size 4 (boolsA gs.length (needF gs (dnN gs.length q)).1)])) (fun i _ => (intOf i + 1).toNat)
  case atStart => exact ⟨0, _, Nat.zero_le _, rfl, by have := hm.out; omega, by unfold Hid; rw [← hM2.out]; exact S2.out⟩
  case round =>
    obtain ⟨q, z, hq, rfl, hz, hS⟩ := hrel
    clear S2
    by_cases hlt : q < gs.length
    · obtain ⟨y, hy⟩ : ∃ y, gs.length - 1 - q = y := ⟨_, rfl⟩
      have hyl : y < gs.length := by omega
      obtain rfl : z = (y : Int) := by omega
      have hz0 : (0 : Int) ≤ (y : Int) := by omega
      have hyi : (y : Int) < gs.length := by omega
      have hw1 : IntKind.i64.wrap ((y : Int) - 1) = (y : Int) - 1 := IntWalk.i64_in _ (by omega)
      have hdn := dnN_succ hlt
      rw [hy] at hdn
      have hst : needF gs (dnN gs.length (q + 1)) = needStep gs (needF gs (dnN gs.length q)) y := by rw [hdn, needF_snoc]
      clear hdn
      replace hz := Lib.hid hz
      replace hy := Lib.hid hy
      obtain ⟨b, off, e, m0, m1, m2⟩ := (hX.out.grow hS.out.below).at_ y hyl
      cases e
      have hgx := gtB_iff.1 (hg.out y hyl)
      have hins := ins_lt (hg.out y hyl)
      have hd : gs.getD y ⟨0, 0, 0⟩ = gs[y] := by rw [List.getD_eq_getElem?_getD, List.getElem?_eq_getElem hyl]; rfl
      have hst2 : (needF gs (dnN gs.length (q + 1))).1 = fun j => (needF gs (dnN gs.length q)).1 j || ((needF gs (dnN gs.length q)).1 y && decide (j ∈ insG gs[y])) := by
        rw [hst]
        unfold needStep
        rw [hd]
        cases (needF gs (dnN gs.length q)).1 y
        · simp
        · simp
      clear hst hd
      generalize (needF gs (dnN gs.length q)).1 = f at hS hst2
      generalize gs[y] = g at m0 m1 m2 hgx hins hst2
      have hI2 : (insG g).length ≤ 2 := by
        unfold insG
        split
        · simp
        · split
          · simp
          · simp
      have hcall := Lib.hid (fun W => l6Inputs_any g (by omega) (by omega) W)
      obtain ⟨gk, ga, gb⟩ := g
      dsimp only at m0 m1 m2
      generalize insG ⟨gk, ga, gb⟩ = I at hcall hins hI2 hst2
      replace hst2 := Lib.hid hst2
      clear hgx
      go_wp2_with fail
      refine (hcall.out _).mono ?_
      rintro e w5 ⟨A5, c5, rfl, hI5, hb5⟩
      have S3 := hS.out.grow hb5
      have hS7 : Sp w w5 [Box w.heap.size 4 (boolsA gs.length (fun j => f j || (f y && decide (j ∈ I.take 0))))] := by
        rw [boolsA_congr (g := f) (fun j _ => by simp)]
        exact S3
      replace hS7 := Lib.hid hS7
      replace hI5 := Lib.hid hI5
      clear S3 hS hb5 hcall m0 m1 m2
      go_wp2_with fail
      go_loopw [6] (fun i wo => ∃ q2 : Nat, q2 ≤ I.length ∧ i = .int .i64 q2 ∧ Hid (Sp w wo [Box w.heap.size 4 (boolsA gs.length (fun j => f j || (f y && decide (j ∈ I.take q2))))]) ∧ Hid (IntsAt wo A5 (natI I))) (fun i _ => I.length - (intOf i).toNat)
      case atStart => exact ⟨0, Nat.zero_le _, rfl, hS7, hI5⟩
      case round =>
        rename World => wo
        obtain ⟨q2, hq2, rfl, hSr, hIr⟩ := hrel
        clear hS7 hI5
        have t9 := hSr.out.cell (i := 0) rfl (o := y) (boolsA_get hyl)
        have hyv : (f y || (f y && decide (y ∈ I.take q2))) = f y := by cases f y <;> simp
        rw [hyv] at t9
        by_cases hlt2 : q2 < I.length
        · have hqi : (q2 : Int) < I.length := by omega
          cases hfy : f y
          · rw [hfy] at t9
            go_wp2_with fail
            go_roundw
            case rel =>
              refine ⟨q + 1, _, by omega, rfl, by have := hz.out; omega, ?_⟩
              unfold Hid
              rw [hst2.out]
              have h := hSr.out
              rw [boolsA_congr (g := fun j => f j || (f y && decide (j ∈ I))) (fun j _ => by simp [hfy])] at h
              exact h
            case measure => simp [intOf]
          · rw [hfy] at t9
            have hnl2 := natI_len I
            obtain ⟨b5, off5, e, hc⟩ := hIr.out.at_ q2 (by omega)
            have hne := Lib.hid (ints_ne (i := 0) hSr.out rfl hIr.out (by intro e0; rw [e0] at hnl2; simp at hnl2; omega))
            subst e
            have hv2 : (natI I)[q2]'(by omega) = ((I[q2] : Nat) : Int) := by simp [natI]
            rw [hv2] at hc
            have hx := Nat.lt_trans (hins _ (List.getElem_mem hlt2)) hyl
            have htk : I.take (q2 + 1) = I.take q2 ++ [I[q2]] := by rw [List.take_succ_eq_append_getElem hlt2]
            have htk2 := Lib.hid htk
            clear htk hv2
            generalize I[q2] = x at hc hx htk2
            have hxi : (x : Int) < gs.length := by omega
            have t1 := hSr.out.cell (i := 0) rfl (o := x) (boolsA_get hx)
            have t2 := hSr.out.frozen (i := 0) rfl x
            have SS := Lib.hid (hSr.out.store (i := 0) rfl x (.bool true))
            clear hSr
            go_wp2_with fail
            go_roundw
            case rel =>
              refine ⟨q2 + 1, by omega, by first | rfl | simp, ?_, ?_⟩
              · have h := SS.out
                simp only [List.set_cons_zero, List.set_cons_succ] at h
                rw [boolsA_set] at h
                unfold Hid
                rw [htk2.out]
                rw [boolsA_congr (g := fun j => f j || (f y && decide (j ∈ I.take q2 ++ [x]))) (fun j _ => by
                  by_cases e : j = x
                  · simp [e, hfy]
                  · simp [e])] at h
                first | exact h | (simp only [hfy] at h; exact h)
              · exact Lib.hid (hIr.out.set hne.out _ _)
            case measure => simp [intOf]; omega
        · obtain rfl : q2 = I.length := by omega
          go_wp2_with fail
          go_roundw
          case rel =>
            refine ⟨q + 1, _, by omega, rfl, by have := hz.out; omega, ?_⟩
            unfold Hid
            rw [hst2.out]
            have h := hSr.out
            rw [List.take_length] at h
            exact h
          case measure => simp [intOf]
    · obtain rfl : q = gs.length := by omega
      have hz0 : ¬ (0 : Int) ≤ z := by omega
      rw [dnN_all] at hS
      go_wp2_with fail
      go_ret
      exact ⟨rfl, hS.out⟩
end Go.Proofs.Ytkhopkonddgicaa

/- Plain facts: the circuit of a Cnf and its values. No program in sight. -/
namespace Go.Proofs.Ytkhopkonddgicaa

def baseG (n : Nat) : List Gt := ((List.range n).map fun (v : Nat) => (⟨1, (v : Int) + 1, 0⟩ : Gt)) ++ ((List.range n).map fun (v : Nat) => (⟨4, (v : Int), 0⟩ : Gt)) ++ [⟨2, 0, 0⟩, ⟨3, 0, 0⟩]
def litIx (n : Nat) (l : Int) : Int := if l < 0 then n - l - 1 else l - 1
def litG (n : Nat) (s : List Gt × Nat) (l : Int) : List Gt × Nat := (s.1 ++ [⟨6, (s.2 : Nat), litIx n l⟩], s.1.length)
def clG (n : Nat) (s : List Gt × Nat) (c : List Int) : List Gt × Nat :=
  ((c.foldl (litG n) (s.1, 2 * n + 1)).1 ++ [⟨5, (s.2 : Nat), ((c.foldl (litG n) (s.1, 2 * n + 1)).2 : Nat)⟩], (c.foldl (litG n) (s.1, 2 * n + 1)).1.length)
def cnfG (n : Nat) (xss : List (List Int)) : List Gt × Nat := xss.foldl (clG n) (baseG n, 2 * n)
def circR (n : Nat) (xss : List (List Int)) : List Gt := (cnfG n xss).1 ++ (if xss = [] then [⟨2, 0, 0⟩] else [])

theorem base_len (n : Nat) : (baseG n).length = 2 * n + 2 := by simp [baseG]; omega
theorem base_var {n v : Nat} (h : v < n) : (baseG n)[v]? = some ⟨1, (v : Int) + 1, 0⟩ := by
  unfold baseG
  rw [List.append_assoc, List.getElem?_append_left (by simp; exact h)]; simp [h]
theorem base_not {n v : Nat} (h : v < n) : (baseG n)[n + v]? = some ⟨4, (v : Int), 0⟩ := by
  unfold baseG
  rw [List.append_assoc, List.getElem?_append_right (by simp), List.getElem?_append_left (by simp; omega)]; simp [h]
theorem base_two (n : Nat) : (baseG n)[2 * n]? = some ⟨2, 0, 0⟩ ∧ (baseG n)[2 * n + 1]? = some ⟨3, 0, 0⟩ := by
  unfold baseG
  refine ⟨?_, ?_⟩
  · rw [List.getElem?_append_right (by simp; omega)]
    simp only [List.length_append, List.length_map, List.length_range]
    rw [show 2 * n - (n + n) = 0 by omega]; rfl
  · rw [List.getElem?_append_right (by simp; omega)]
    simp only [List.length_append, List.length_map, List.length_range]
    rw [show 2 * n + 1 - (n + n) = 1 by omega]; rfl
theorem get_of {l : List Gt} {i : Nat} {g : Gt} (h : l[i]? = some g) (hi : i < l.length) : l[i] = g := by
  rw [List.getElem?_eq_getElem hi] at h; exact Option.some.inj h
theorem base_ok (n : Nat) : OkG n (baseG n) := by
  intro i hi
  have hl := base_len n
  rcases Nat.lt_or_ge i n with h | h
  · rw [get_of (base_var h) hi, gtB_iff]; dsimp only; omega
  rcases Nat.lt_or_ge i (2 * n) with h2 | h2
  · obtain ⟨v, rfl⟩ : ∃ v, i = n + v := ⟨i - n, by omega⟩
    rw [get_of (base_not (v := v) (by omega)) hi, gtB_iff]; dsimp only; omega
  · rcases (show i = 2 * n ∨ i = 2 * n + 1 by omega) with rfl | rfl
    · rw [get_of (base_two n).1 hi, gtB_iff]; dsimp only; omega
    · rw [get_of (base_two n).2 hi, gtB_iff]; dsimp only; omega
theorem base_true (n bits : Nat) : gval bits (baseG n) (2 * n) = true := by
  rw [(base_ok n).val bits (show 2 * n < (baseG n).length by rw [base_len]; omega), get_of (base_two n).1]; rfl
theorem base_false (n bits : Nat) : gval bits (baseG n) (2 * n + 1) = false := by
  rw [(base_ok n).val bits (show 2 * n + 1 < (baseG n).length by rw [base_len]; omega), get_of (base_two n).2]; rfl
theorem base_lit {n : Nat} {l : Int} (h0 : l ≠ 0) (h1 : -(n : Int) ≤ l) (h2 : l ≤ n) (bits : Nat) : 0 ≤ litIx n l ∧ (litIx n l).toNat < 2 * n ∧ gval bits (baseG n) (litIx n l).toNat = litT bits l := by
  have hvar : ∀ v, v < n → gval bits (baseG n) v = bits.testBit v := fun v hv => by
    rw [(base_ok n).val bits (show v < (baseG n).length by rw [base_len]; omega), get_of (base_var hv)]
    simp [gv, bitG]
  unfold litIx litT
  by_cases hn : l < 0
  · rw [if_pos hn]
    obtain ⟨v, rfl⟩ : ∃ v : Nat, l = -((v : Int) + 1) := ⟨(-l - 1).toNat, by omega⟩
    have e : ((n : Int) - -((v : Int) + 1) - 1).toNat = n + v := by omega
    have hv : v < n := by omega
    refine ⟨by omega, by omega, ?_⟩
    rw [e, (base_ok n).val bits (show n + v < (baseG n).length by rw [base_len]; omega), get_of (base_not hv)]
    have e2 : (-((v : Int) + 1)).natAbs - 1 = v := by omega
    have e3 : decide ((0 : Int) < -((v : Int) + 1)) = false := decide_eq_false (by omega)
    rw [e2, e3]
    simp [gv, hvar v hv]
  · rw [if_neg hn]
    obtain ⟨v, rfl⟩ : ∃ v : Nat, l = (v : Int) + 1 := ⟨(l - 1).toNat, by omega⟩
    have e : ((v : Int) + 1 - 1).toNat = v := by omega
    have hv : v < n := by omega
    refine ⟨by omega, by omega, ?_⟩
    have e2 : ((v : Int) + 1).natAbs - 1 = v := by omega
    have e3 : decide ((0 : Int) < (v : Int) + 1) = true := decide_eq_true (by omega)
    rw [e, hvar v hv, e2, e3]
    simp
/-- What is known while clauses are added: the base lies ahead; the number's value is this. -/
structure CInv (n : Nat) (s : List Gt × Nat) (val : Nat → Bool) : Prop where
  pre : ∃ ms, s.1 = baseG n ++ ms
  ok : OkG n s.1
  lt : s.2 < s.1.length
  val : ∀ bits, gval bits s.1 s.2 = val bits
def LitN (n : Nat) (l : Int) : Prop := l ≠ 0 ∧ -(n : Int) ≤ l ∧ l ≤ n
theorem CInv.lit {n : Nat} {s : List Gt × Nat} {val : Nat → Bool} {l : Int} (h : CInv n s val) (hl : LitN n l) : CInv n (litG n s l) (fun bits => val bits || litT bits l) := by
  obtain ⟨ms, hms⟩ := h.pre
  have hb := base_len n
  have hlen : (baseG n).length ≤ s.1.length := by rw [hms, List.length_append]; omega
  obtain ⟨b0, b1, -⟩ := base_lit hl.1 hl.2.1 hl.2.2 0
  have hlt := h.lt
  have hg : gtB n s.1.length ⟨6, (s.2 : Nat), litIx n l⟩ = true := by rw [gtB_iff]; dsimp only; omega
  unfold litG
  refine ⟨⟨ms ++ [⟨6, (s.2 : Nat), litIx n l⟩], by dsimp only; rw [hms, List.append_assoc]⟩, h.ok.snoc hg, by simp, fun bits => ?_⟩
  dsimp only
  rw [gval_new]
  have e := h.val bits
  have e2 : gval bits s.1 (litIx n l).toNat = litT bits l := by
    rw [hms, gval_pre (by omega)]
    exact (base_lit hl.1 hl.2.1 hl.2.2 bits).2.2
  simp [gv, e, e2]
theorem CInv.lits {n : Nat} : ∀ {c : List Int} {s : List Gt × Nat} {val : Nat → Bool}, CInv n s val → (∀ l ∈ c, LitN n l) → CInv n (c.foldl (litG n) s) (fun bits => val bits || c.any (litT bits)) ∧ ∃ ms, (c.foldl (litG n) s).1 = s.1 ++ ms
  | [], s, val, h, _ => ⟨⟨h.pre, h.ok, h.lt, fun bits => by simp [h.val]⟩, [], by simp⟩
  | l :: c, s, val, h, hl => by
    obtain ⟨h1, ms, h2⟩ := (h.lit (hl l (by simp))).lits (c := c) (fun x hx => hl x (by simp [hx]))
    rw [List.foldl_cons]
    refine ⟨⟨h1.pre, h1.ok, h1.lt, fun bits => by rw [h1.val, List.any_cons, Bool.or_assoc]⟩, [⟨6, (s.2 : Nat), litIx n l⟩] ++ ms, ?_⟩
    rw [h2, ← List.append_assoc]; rfl
theorem CInv.clause {n : Nat} {s : List Gt × Nat} {val : Nat → Bool} {c : List Int} (h : CInv n s val) (hc : ∀ l ∈ c, LitN n l) : CInv n (clG n s c) (fun bits => val bits && clT c bits) := by
  have hb := base_len n
  obtain ⟨ms, hms⟩ := h.pre
  have hlen : (baseG n).length ≤ s.1.length := by rw [hms, List.length_append]; omega
  have h0 : CInv n (s.1, 2 * n + 1) (fun _ => false) := ⟨⟨ms, hms⟩, h.ok, by dsimp only; omega, fun bits => by
    dsimp only
    rw [hms, gval_pre (by omega)]; exact base_false n bits⟩
  obtain ⟨h1, ks, hks⟩ := h0.lits (c := c) hc
  have hlt := h.lt
  have hl1 := h1.lt
  have hlen2 : s.1.length ≤ (c.foldl (litG n) (s.1, 2 * n + 1)).1.length := by rw [hks, List.length_append]; dsimp only; omega
  have hold : ∀ bits, gval bits (c.foldl (litG n) (s.1, 2 * n + 1)).1 s.2 = val bits := fun bits => by rw [hks, gval_pre hlt]; exact h.val bits
  unfold clG
  generalize c.foldl (litG n) (s.1, 2 * n + 1) = t at *
  have hg : gtB n t.1.length ⟨5, (s.2 : Nat), (t.2 : Nat)⟩ = true := by rw [gtB_iff]; dsimp only; omega
  refine ⟨?_, h1.ok.snoc hg, by simp, fun bits => ?_⟩
  · obtain ⟨ms2, hms2⟩ := h1.pre
    exact ⟨ms2 ++ [⟨5, (s.2 : Nat), (t.2 : Nat)⟩], by dsimp only; rw [hms2, List.append_assoc]⟩
  · dsimp only
    rw [gval_new]
    simp [gv, hold bits, h1.val bits, clT]
theorem CInv.clauses {n : Nat} : ∀ {xss : List (List Int)} {s : List Gt × Nat} {val : Nat → Bool}, CInv n s val → (∀ c ∈ xss, ∀ l ∈ c, LitN n l) → CInv n (xss.foldl (clG n) s) (fun bits => val bits && modT xss bits)
  | [], s, val, h, _ => ⟨h.pre, h.ok, h.lt, fun bits => by simp [h.val, modT]⟩
  | c :: xss, s, val, h, hc => by
    have h1 := (h.clause (hc c (by simp))).clauses (xss := xss) (fun x hx => hc x (by simp [hx]))
    rw [List.foldl_cons]
    exact ⟨h1.pre, h1.ok, h1.lt, fun bits => by rw [h1.val]; simp [modT, Bool.and_assoc]⟩
theorem cnf_inv {n : Nat} {xss : List (List Int)} (h : ∀ c ∈ xss, ∀ l ∈ c, LitN n l) : CInv n (cnfG n xss) (modT xss) := by
  have h0 : CInv n (baseG n, 2 * n) (fun _ => true) := ⟨⟨[], by simp⟩, base_ok n, by dsimp only; rw [base_len]; omega, base_true n⟩
  have := h0.clauses h
  exact ⟨this.pre, this.ok, this.lt, fun bits => by rw [show cnfG n xss = xss.foldl (clG n) (baseG n, 2 * n) from rfl, this.val]; rfl⟩
theorem clG_last (n : Nat) (s : List Gt × Nat) (c : List Int) : (clG n s c).1.length = (clG n s c).2 + 1 := by simp [clG]
theorem cnf_last (n : Nat) {xss : List (List Int)} (h : xss ≠ []) : (cnfG n xss).1.length = (cnfG n xss).2 + 1 := by
  induction xss using snoc_ind with
  | h0 => exact absurd rfl h
  | h1 l a _ =>
    unfold cnfG
    rw [List.foldl_append]
    exact clG_last n _ _
/-- The circuit of a Cnf is valid and true just for its models. -/
theorem circ_value {n : Nat} {xss : List (List Int)} (h : ∀ c ∈ xss, ∀ l ∈ c, LitN n l) : OkG n (circR n xss) ∧ ∀ bits, cval (circR n xss) bits = modT xss bits := by
  have hi := cnf_inv h
  unfold circR
  by_cases e : xss = []
  · rw [if_pos e]
    refine ⟨hi.ok.snoc rfl, fun bits => ?_⟩
    unfold cval
    rw [List.length_append, List.length_singleton, Nat.add_sub_cancel, gval_new, e]; rfl
  · rw [if_neg e, List.append_nil]
    refine ⟨hi.ok, fun bits => ?_⟩
    unfold cval
    rw [cnf_last n e, Nat.add_sub_cancel]; exact hi.val bits
end Go.Proofs.Ytkhopkonddgicaa

/- Plain facts: the circuit of a Cnf, gate by gate. No program in sight. -/
namespace Go.Proofs.Ytkhopkonddgicaa

theorem litsG_len (n : Nat) : ∀ (c : List Int) (s : List Gt × Nat), (c.foldl (litG n) s).1.length = s.1.length + c.length
  | [], s => rfl
  | l :: c, s => by
    rw [List.foldl_cons, litsG_len n c, List.length_cons]
    simp [litG]; omega
theorem lits_take {n q : Nat} {c : List Int} (s : List Gt × Nat) (h : q < c.length) : (c.take (q + 1)).foldl (litG n) s = litG n ((c.take q).foldl (litG n) s) c[q] := by
  rw [List.take_succ_eq_append_getElem h, List.foldl_append]
  rfl
theorem cnfG_take {n j : Nat} {xss : List (List Int)} (h : j < xss.length) : cnfG n (xss.take (j + 1)) = clG n (cnfG n (xss.take j)) xss[j] := by
  unfold cnfG
  rw [List.take_succ_eq_append_getElem h, List.foldl_append]
  rfl
theorem clG_len (n : Nat) (s : List Gt × Nat) (c : List Int) : (clG n s c).1.length = s.1.length + c.length + 1 := by
  unfold clG
  dsimp only
  rw [List.length_append, litsG_len]
  rfl
theorem cnfG_len {n : Nat} : ∀ {xss : List (List Int)}, (∀ c ∈ xss, c.length ≤ 1000) → (cnfG n xss).1.length ≤ 2 * n + 2 + 1001 * xss.length := by
  intro xss
  induction xss using snoc_ind with
  | h0 => intro _; show (baseG n).length ≤ _; rw [base_len]; omega
  | h1 l a ih =>
    intro h
    have h1 := ih (fun c hc => h c (by simp [hc]))
    have h2 := h a (by simp)
    have e : cnfG n (l ++ [a]) = clG n (cnfG n l) a := by unfold cnfG; rw [List.foldl_append]; rfl
    rw [e, clG_len, List.length_append, List.length_singleton]
    omega
/-- The literals of a valid Cnf. -/
theorem good_lits {n : Nat} {xss : List (List Int)} (h : goodB n xss = true) : ∀ c ∈ xss, ∀ l ∈ c, LitN n l := by
  intro c hc l hl
  have hp := clause_parts ((good_cnf h).2.2.1 c hc)
  have := hp.2.1 l hl
  unfold LitN
  omega
/-- The first gates. -/
def base1 (j : Nat) : List Gt := (List.range j).map fun (v : Nat) => (⟨1, (v : Int) + 1, 0⟩ : Gt)
def base2 (n j : Nat) : List Gt := base1 n ++ (List.range j).map fun (v : Nat) => (⟨4, (v : Int), 0⟩ : Gt)
theorem base1_succ (j : Nat) : base1 (j + 1) = base1 j ++ [⟨1, (j : Int) + 1, 0⟩] := by simp [base1, List.range_succ]
theorem base2_succ (n j : Nat) : base2 n (j + 1) = base2 n j ++ [⟨4, (j : Int), 0⟩] := by simp [base2, List.range_succ]
theorem base2_zero (n : Nat) : base2 n 0 = base1 n := by simp [base2]
theorem base1_len (j : Nat) : (base1 j).length = j := by simp [base1]
theorem base2_len (n j : Nat) : (base2 n j).length = n + j := by simp [base2, base1]
theorem base_eq (n : Nat) : baseG n = base2 n n ++ [⟨2, 0, 0⟩, ⟨3, 0, 0⟩] := rfl
end Go.Proofs.Ytkhopkonddgicaa

/- Contracts: circuits that are trimmed and folded. -/
namespace Go.Proofs.Ytkhopkonddgicaa
open Go.RowKit

/-- A circuit of its own and whether it is valid. -/
def GOut (w : World) (ok : Bool) (gs : List Gt) (e : Ending) (w' : World) : Prop :=
  ∃ v, e = .returned (.tuple #[v, .bool ok]) ∧ Sp w w' [Own 41 3 v (if ok then gs else []).length ((if ok then gs else []).flatMap gtEnc)]
theorem GOut.no {w w' : World} {gs : List Gt} (h : Below w.heap.size w w') : GOut w false gs (.returned (.tuple #[.slice none 0 0, .bool false])) w' := ⟨_, rfl, (Sp.of_below h).own_nil _ _⟩
theorem GOut.yes {w w' : World} {gs : List Gt} {v : Value} (h : Sp w w' [Own 41 3 v gs.length (gs.flatMap gtEnc)]) : GOut w true gs (.returned (.tuple #[v, .bool true])) w' := ⟨_, rfl, h⟩
theorem circ_vars {vars : Int} {gs : List Gt} (h : circB vars gs = true) : 0 ≤ vars ∧ vars ≤ 12 ∧ 0 < gs.length ∧ gs.length ≤ 200 ∧ OkG vars gs := by
  have h2 := h
  unfold circB at h2
  rw [Bool.and_eq_true, Bool.and_eq_true, inB_iff] at h2
  obtain ⟨n, rfl⟩ : ∃ n : Nat, vars = n := ⟨vars.toNat, by omega⟩
  have := circ_parts h
  refine ⟨by omega, by omega, this.2.1, this.2.2.1, this.2.2.2⟩

set_option maxRecDepth 100000 in
set_option maxHeartbeats 8000000 in
theorem foldM_any (vars : Int) (A : Option Addr) (c : Nat) (gs : List Gt) (w : World) (hx : GtAt w A gs) (hl : gs.length ≤ 1000) :
    Calls Try.prog 15 #[.int .i64 vars, .slice A gs.length c] w (GOut w (circB vars gs) (foldR gs)) := by
  have hc := isCircuit_any vars A c gs w hx (by omega)
  cases hq : circB vars gs
  · rw [hq] at hc
    replace hc := Lib.hid hc
    clear hx hq
    go_enter Try.func15, Try.ntmps15
    go_wp2_with fail
    refine hc.out.mono ?_
    rintro e w1 ⟨rfl, hb1⟩
    replace hb1 := Lib.hid hb1
    go_wp2_with fail
    go_ret2
    exact GOut.no hb1.out
  · rw [hq] at hc
    obtain ⟨-, hv, hp, -, hok⟩ := circ_vars hq
    have hf := Lib.hid (fun W (h : Below w.heap.size w W) => foldCircuit_any A c gs W (hx.grow h) hok hp hl (by omega))
    replace hc := Lib.hid hc
    clear hx hq hok
    go_enter Try.func15, Try.ntmps15
    go_wp2_with fail
    refine hc.out.mono ?_
    rintro e w1 ⟨rfl, hb1⟩
    have hf2 := Lib.hid (hf.out _ hb1)
    replace hb1 := Lib.hid (Sp.of_below hb1)
    clear hf hc
    go_wp2_with fail
    refine hf2.out.mono ?_
    rintro e w2 ⟨v, rfl, S2⟩
    have S3 := Lib.hid (hb1.out.seq S2)
    clear hf2 hb1 S2
    go_wp2_with fail
    go_ret2
    exact GOut.yes S3.out

set_option maxRecDepth 100000 in
set_option maxHeartbeats 8000000 in
theorem trimM_any (vars : Int) (A : Option Addr) (c : Nat) (gs : List Gt) (w : World) (hx : GtAt w A gs) (hl : gs.length ≤ 1000) :
    Calls Try.prog 19 #[.int .i64 vars, .slice A gs.length c] w (GOut w (circB vars gs) (trimG gs (needL gs))) := by
  have hc := isCircuit_any vars A c gs w hx (by omega)
  cases hq : circB vars gs
  · rw [hq] at hc
    replace hc := Lib.hid hc
    clear hx hq
    go_enter Try.func19, Try.ntmps19
    go_wp2_with fail
    refine hc.out.mono ?_
    rintro e w1 ⟨rfl, hb1⟩
    replace hb1 := Lib.hid hb1
    go_wp2_with fail
    go_ret2
    exact GOut.no hb1.out
  · rw [hq] at hc
    obtain ⟨-, hv, hp, -, hok⟩ := circ_vars hq
    have hf := Lib.hid (fun W (h : Below w.heap.size w W) => trim_any A c gs W (hx.grow h) hok hp hl (by omega))
    replace hc := Lib.hid hc
    clear hx hq hok
    go_enter Try.func19, Try.ntmps19
    go_wp2_with fail
    refine hc.out.mono ?_
    rintro e w1 ⟨rfl, hb1⟩
    have hf2 := Lib.hid (hf.out _ hb1)
    replace hb1 := Lib.hid (Sp.of_below hb1)
    clear hf hc
    go_wp2_with fail
    refine hf2.out.mono ?_
    rintro e w2 ⟨v, rfl, S2⟩
    have S3 := Lib.hid (hb1.out.seq S2)
    clear hf2 hb1 S2
    go_wp2_with fail
    go_ret2
    exact GOut.yes S3.out

end Go.Proofs.Ytkhopkonddgicaa
