/- Lemmas and contracts for a law, put together out of several texts: BrA PbR. -/
import Derived.Test.YtahbepajeplcmaaDoorMg2
import Derived.Test.YtahbepajeplcmaaDoorMg4
import Derived.Test.YtahbepajeplcmaaDoorMg3
/- A part of the memory brought to the front. No program in sight. -/
namespace Go.Proofs.YtahbepajeplcmaaDoor
open Go.RowKit

theorem sep_bring {w : World} : ∀ {ps : List Asn} {F : List Nat} {i : Nat} {q : Asn}, sep ps w F → ps[i]? = some q → ∃ F', sep (q :: ps.eraseIdx i) w F' ∧ ∀ b ∈ F', b ∈ F
  | [], _, _, _, _, h => by simp at h
  | p :: ps, F, 0, q, h, hi => by
    simp at hi; subst hi
    exact ⟨F, h, fun _ h => h⟩
  | p :: ps, _, i + 1, q, h, hi => by
    obtain ⟨F1, F2, rfl, hd, h1, h2⟩ := h
    obtain ⟨F', ⟨F3, F4, rfl, hd', h3, h4⟩, hs⟩ := sep_bring (i := i) h2 (by simpa using hi)
    refine ⟨F3 ++ (F1 ++ F4), ⟨F3, F1 ++ F4, rfl, fun b hb hb2 => ?_, h3, F1, F4, rfl, fun b hb hb2 => hd b hb (hs b (List.mem_append.2 (.inr hb2))), h1, h4⟩, fun b hb => ?_⟩
    · rcases List.mem_append.1 hb2 with h | h
      · exact hd b h (hs b (List.mem_append.2 (.inl hb)))
      · exact hd' b hb h
    · simp only [List.mem_append] at hb ⊢
      rcases hb with h | h | h
      · exact .inr (hs b (List.mem_append.2 (.inl h)))
      · exact .inl h
      · exact .inr (hs b (List.mem_append.2 (.inr h)))
section
variable {w0 w w' : World} {ps : List Asn} {i j : Nat} {q : Asn}
/-- A part is brought to the front. -/
theorem Sp.bring (h : Sp w0 w ps) (hi : ps[i]? = some q) : Sp w0 w (q :: ps.eraseIdx i) := by
  obtain ⟨h1, F, h2, h3⟩ := h
  obtain ⟨F', h4, h5⟩ := sep_bring h2 hi
  exact ⟨h1, F', h4, fun b hb => h3 b (h5 b hb)⟩
end
/-- Parts are picked, by their places in what is left. -/
def pickQ : List Nat → List Asn → Option (List Asn)
  | [], _ => some []
  | i :: is, ps => match ps[i]? with
    | none => none
    | some q => match pickQ is (ps.eraseIdx i) with
      | none => none
      | some qs => some (q :: qs)
theorem sep_pick {w : World} : ∀ {is : List Nat} {ps qs : List Asn} {F : List Nat}, sep ps w F → pickQ is ps = some qs → ∃ F', sep qs w F' ∧ ∀ b ∈ F', b ∈ F
  | [], _, _, _, _, hq => by
    simp only [pickQ, Option.some.injEq] at hq
    subst hq
    exact ⟨[], rfl, by simp⟩
  | i :: is, ps, qs, F, h, hq => by
    unfold pickQ at hq
    cases hi : ps[i]? with
    | none => rw [hi] at hq; cases hq
    | some q =>
      rw [hi] at hq
      simp only at hq
      cases hr : pickQ is (ps.eraseIdx i) with
      | none => rw [hr] at hq; cases hq
      | some rs =>
        rw [hr] at hq
        simp only [Option.some.injEq] at hq
        subst hq
        obtain ⟨F1, ⟨F2, F3, rfl, hd, h1, h2⟩, hs⟩ := sep_bring h hi
        obtain ⟨F4, h3, h4⟩ := sep_pick h2 hr
        exact ⟨F2 ++ F4, ⟨F2, F4, rfl, fun b hb hb4 => hd b hb (h4 b hb4), h1, h3⟩, fun b hb => by
          rcases List.mem_append.1 hb with hb | hb
          · exact hs b (List.mem_append.2 (.inl hb))
          · exact hs b (List.mem_append.2 (.inr (h4 b hb)))⟩
theorem Sp.pick {w0 w : World} {ps qs : List Asn} (is : List Nat) (h : Sp w0 w ps) (hq : pickQ is ps = some qs) : Sp w0 w qs := by
  obtain ⟨h1, F, h2, h3⟩ := h
  obtain ⟨F', h4, h5⟩ := sep_pick h2 hq
  exact ⟨h1, F', h4, fun b hb => h3 b (h5 b hb)⟩
end Go.Proofs.YtahbepajeplcmaaDoor

/- Own rows of records; the records of lines. -/
namespace Go.Proofs.YtahbepajeplcmaaDoor
open Go.RowKit

/-- A row of records of its own. -/
abbrev Recs (v : Value) (ys : List Rec) : Asn := Own 38 4 v ys.length (ys.flatMap rcEnc)
theorem rec_ones (ys : List Rec) : ∀ u ∈ ys.flatMap rcEnc, u.oneCell' = true := by
  intro u hu
  obtain ⟨r, _, hr⟩ := List.mem_flatMap.1 hu
  simp only [rcEnc, List.mem_cons, List.not_mem_nil, or_false] at hr
  rcases hr with rfl | rfl | rfl | rfl <;> rfl
theorem flat4_len (ys : List Rec) : (ys.flatMap rcEnc).length = ys.length * 4 := by
  induction ys with
  | nil => rfl
  | cons y ys ih => rw [List.flatMap_cons, List.length_append, ih, List.length_cons]; simp [rcEnc]; omega
theorem Sp.recs_row {w0 w : World} {ps : List Asn} {i : Nat} {v : Value} {ys : List Rec} (h : Sp w0 w ps) (hi : ps[i]? = some (Recs v ys)) (hg : ∀ y ∈ ys, rcOk y) :
    ∃ F, rcTy.row true w v ys F ∧ F.Nodup ∧ ∀ b ∈ F, w0.heap.size ≤ b := by
  obtain ⟨Fi, ⟨rfl, ho⟩, hF, -⟩ := h.upd hi
  obtain ⟨F, hr, hF2, _⟩ := Ty.row_of_owns (T := rcTy) (xs := ys) (G := []) ho rfl (by decide) (flat_all.2 ⟨rfl, hg, rfl⟩)
  refine ⟨F, hr, ?_, fun b hb => ?_⟩
  · rcases hF2 with rfl | ⟨g, _, _, _, rfl⟩ <;> simp
  · rcases hF2 with rfl | ⟨g, _, _, hg, rfl⟩
    · cases hb
    · refine hF b ?_
      rw [hg]; simpa using hb
theorem row_read {v : Value} {xs : List Rec} {F : List Nat} {w : World} (h : rcTy.row true w v xs F) : rcTy.row false w v xs F := Ty.row_down h
theorem src_rec {w : World} {b : Nat} {r : Rec} (h0 : w.cell? ⟨b, 0, none⟩ = some (.string (ms r.name))) (h1 : w.cell? ⟨b, 1, none⟩ = some (.int .i64 r.sys)) (h2 : w.cell? ⟨b, 2, none⟩ = some (.int .i64 r.size)) (h3 : w.cell? ⟨b, 3, none⟩ = some (.int .i64 r.extra)) : Src w (some ⟨b, 0, none⟩) 1 4 (rcEnc r) :=
  .inr ⟨_, rfl, rfl, fun j u hj => by
    rw [add_none, Nat.zero_add]
    match j, hj with
    | 0, hj => simp [rcEnc] at hj; subst hj; exact h0
    | 1, hj => simp [rcEnc] at hj; subst hj; exact h1
    | 2, hj => simp [rcEnc] at hj; subst hj; exact h2
    | 3, hj => simp [rcEnc] at hj; subst hj; exact h3
    | j + 4, hj => simp [rcEnc] at hj⟩
theorem rec_one (r : Rec) : ∀ u ∈ rcEnc r, u.oneCell' = true := fun u hu => rec_ones [r] u (by simpa using hu)
theorem split_part_lenB (b : Int) : ∀ l : List UInt8, ∀ p ∈ splitP b l, p.length ≤ l.length
  | [] => by simp [splitP]
  | d :: l => by
    have ih := split_part_lenB b l
    intro p hp
    unfold splitP at hp
    split at hp
    · rcases List.mem_cons.1 hp with rfl | hp
      · simp
      · have := ih p hp; simp only [List.length_cons]; omega
    · cases h : splitP b l with
      | nil => rw [h] at hp; simp at hp; subst hp; simp
      | cons q qs =>
        rw [h] at hp ih
        rcases List.mem_cons.1 hp with rfl | hp
        · have := ih q (by simp); simp only [List.length_cons]; omega
        · have := ih p (by simp [hp]); simp only [List.length_cons]; omega
theorem trimB_len (l : List UInt8) : (trimB l).length ≤ l.length := by
  unfold trimB Lib.trimSuffix
  split
  · rw [List.length_take]; omega
  · exact Nat.le_refl _
theorem sysB_in (c : UInt8) : 0 ≤ sysB c ∧ sysB c ≤ 4 := by
  unfold sysB
  simp only [Lib.indexByte]
  split
  · omega
  · split
    · split
      · omega
      · omega
    · omega
theorem numB_in {l : List UInt8} : -999999 ≤ (numB l).1 ∧ (numB l).1 ≤ 999999 := by
  unfold numB
  split
  · split
    · rename_i h
      simp only [Bool.and_eq_true, inB_true] at h
      exact h.1
    · decide
  · decide
theorem rdR_ok {p : List UInt8} {r : Rec} (h : rdR p = some r) (hp : p.length ≤ 2000000) : rcOk r := by
  unfold rdR at h
  have hl := split_part_lenB 32 p
  generalize splitP 32 p = ws at h hl
  unfold rdW at h
  split at h
  · rename_i a c u v
    split at h
    · cases h
      have h1 := hl a (by simp)
      have h2 := sysB_in c
      have h3 := @numB_in u
      have h4 := @numB_in v
      refine ⟨?_, ⟨?_, ?_⟩, ⟨?_, ?_⟩, ⟨?_, ?_⟩⟩ <;> dsimp only <;> omega
    · cases h
  · cases h
/-- The record of a line. -/
def lnR (x : Ln) : Option Rec := rdR (trimB (lnB x))
theorem lnR_ok {x : Ln} {r : Rec} (h : lnR x = some r) : rcOk r := by
  refine rdR_ok h ?_
  have h1 := trimB_len (lnB x)
  have h2 := x.property
  have h3 : (lnB x).length = x.val.size := bl_length _
  omega
theorem recs_ok : ∀ {pre : List Ln} {xs : List Rec}, pre.map lnR = xs.map some → ∀ r ∈ xs, rcOk r
  | [], [], _ => by simp
  | [], _ :: _, h => by cases h
  | _ :: _, [], h => by cases h
  | p :: pre, x :: xs, h => by
    simp only [List.map_cons, List.cons.injEq] at h
    intro r hr
    rcases List.mem_cons.1 hr with rfl | hr
    · exact lnR_ok h.1
    · exact recs_ok h.2 r hr
theorem lnR_words {x : Ln} {ws : List (List UInt8)} (h : splitP 32 (trimB (lnB x)) = ws) : lnR x = rdW ws := by unfold lnR rdR; rw [h]
theorem rdW_four {ws : List (List UInt8)} (h : ws.length ≠ 4) : rdW ws = none := by
  unfold rdW
  split
  · simp at h
  · rfl
theorem rdW_one {a b u v : List UInt8} (h : b.length ≠ 1) : rdW [a, b, u, v] = none := by
  unfold rdW
  split
  · rename_i e
    cases e
    simp at h
  · rfl
theorem rdW_no {a u v : List UInt8} {c : UInt8} (h : numsOk [u, v] = false) : rdW [a, [c], u, v] = none := by
  unfold numsOk at h
  simp only [List.all_cons, List.all_nil, Bool.and_true] at h
  simp only [rdW, h]; rfl
theorem rdW_yes {a u v : List UInt8} {c : UInt8} (h : numsOk [u, v] = true) : rdW [a, [c], u, v] = some ⟨a, sysB c, (numB u).1, (numB v).1⟩ := by
  unfold numsOk at h
  simp only [List.all_cons, List.all_nil, Bool.and_true] at h
  simp only [rdW, h]; rfl
end Go.Proofs.YtahbepajeplcmaaDoor
