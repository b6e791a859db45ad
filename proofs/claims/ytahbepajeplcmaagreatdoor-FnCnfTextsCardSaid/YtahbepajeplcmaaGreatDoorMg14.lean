/- Lemmas and contracts for a law, put together out of several texts: CxS. -/
import Derived.Test.YtahbepajeplcmaaGreatDoorMg13
/- Facts for the walk of FnCnfTexts. -/
namespace Go.Proofs.YtahbepajeplcmaaGreatDoor
open Go.RowKit

theorem ba_neX (t : ByteArray) : (t != t) = false := by
  show (!(t.data == t.data)) = false
  simp
theorem NumEnv.sp {w0 w : World} {ps : List Asn} (h : NumEnv w0) (hS : Sp w0 w ps) : NumEnv w := h.grow hS.below
theorem rowC {w : World} {A : Option Addr} {cap : Nat} {xss : List (List Int)} {F : List Nat} (h : (Ty.slice Ty.int).row false w (.slice A xss.length cap) xss F) : ClsAt w A xss := by
  obtain ⟨_, _, e, h⟩ := cls_row h
  cases e
  exact h
theorem vCnfR_any (vars : Int) (A A' : Option Addr) (c c' : Nat) (xss : List (List Int)) (F G : List Nat) (w : World) (hx : (Ty.slice Ty.int).row false w (.slice A xss.length c) xss F) (hy : (Ty.slice Ty.int).row false w (.slice A' xss.length c') xss G) (hl : xss.length ≤ 1000000) (hs : ∀ c ∈ xss, c.length ≤ 1000000) :
    Calls Tryz.prog 41 #[.agg #[.int .i64 vars, .slice A xss.length c], .agg #[.int .i64 vars, .slice A' xss.length c']] w fun e w' => e = .returned (.bool true) ∧ Below w.heap.size w w' := vCnf_same vars A A' c c' xss w (rowC hx) (rowC hy) hl hs
theorem good_small {vars : Int} {xss : List (List Int)} (h : goodB vars xss = true) : xss.length ≤ 60 ∧ ∀ c ∈ xss, c.length ≤ 1000000 :=
  ⟨(goodN_parts h).2.1, fun c hc => by have := (good_mildC h c hc).2; omega⟩
/-- The text of a Cnf leads back. -/
theorem cnfText_back (va : Int) (xss : List (List Int)) (h : goodB va xss = true) : (ms (cnfA va xss)).size ≤ 100000 ∧ parN (bl (ms (cnfA va xss))) = ((va, xss), true) ∧ ∀ c ∈ xss, c.length ≤ 1000000 := by
  obtain ⟨h1, h2, h3⟩ := goodN_parts h
  have e : cnfA va xss = cnfT va xss := if_pos h
  have hv := inB_true.1 h1
  rw [e]
  refine ⟨?_, ?_, (good_small h).2⟩
  · have := cnfK_len (vars := va) (by omega) (good_mildC h) xss.length (Nat.le_refl _)
    rw [cnfK_all] at this
    rw [← bl_length, bl_ms]
    omega
  · rw [bl_ms]
    exact is_parN ⟨h, rfl⟩
theorem parN_out (s : List UInt8) : ∃ (v : Int) (yss : List (List Int)) (fine : Bool), parN s = ((v, yss), fine) ∧ (fine = true → goodB v yss = true ∧ cnfA v yss = s) ∧ yss.length ≤ 60 ∧ ∀ c ∈ yss, c.length ≤ 1000000 := by
  rcases parN_cases s with h | ⟨v, xss, h⟩
  · exact ⟨0, [], false, h, by simp, by simp, by simp⟩
  · obtain ⟨h1, h2⟩ := parN_is h
    exact ⟨v, xss, true, h, fun _ => ⟨h1, (if_pos h1).trans h2⟩, (good_small h1).1, (good_small h1).2⟩
theorem sortN_snd (va : Int) (xss : List (List Int)) : (sortN va xss).2 = goodB va xss := by
  unfold sortN
  cases h : goodB va xss <;> simp
theorem leastN_snd (va : Int) (xss : List (List Int)) : (leastN va xss).2 = goodB va xss := by
  unfold leastN
  cases h : goodB va xss <;> simp
theorem sortN_out (va : Int) (xss : List (List Int)) : ∃ (v : Int) (ss : List (List Int)) (ok : Bool), sortN va xss = ((v, ss), ok) ∧ ss.length ≤ 60 ∧ (∀ c ∈ ss, c.length ≤ 1000000) ∧ (ok = true → goodB va xss = true ∧ v = va ∧ ∃ n : Nat, va = n ∧ ss = sortA xss) := by
  unfold sortN
  cases h : goodB va xss
  · exact ⟨0, [], false, by simp, by simp, by simp, by simp⟩
  · have hv := inB_true.1 (goodN_parts h).1
    exact ⟨va, sortA xss, true, by simp, (good_small (sortA_good h)).1, (good_small (sortA_good h)).2, fun _ => ⟨rfl, rfl, va.toNat, by omega, rfl⟩⟩
theorem leastN_out (va : Int) (xss : List (List Int)) : ∃ (v : Int) (ts : List (List Int)) (ok : Bool), leastN va xss = ((v, ts), ok) ∧ ts.length ≤ 60 ∧ (∀ c ∈ ts, c.length ≤ 1000000) ∧ (ok = true → v = va ∧ ts = leastK xss xss.length) ∧ ok = goodB va xss := by
  unfold leastN
  cases h : goodB va xss
  · exact ⟨0, [], false, by simp, by simp, by simp, by simp, rfl⟩
  · exact ⟨va, leastK xss xss.length, true, by simp, (good_small (least_good h)).1, (good_small (least_good h)).2, fun _ => ⟨rfl, rfl⟩, rfl⟩
end Go.Proofs.YtahbepajeplcmaaGreatDoor
