/- Facts for the walk of the law of inequalities. -/
import Derived.Test.YtcdgpekefiplnaaPnP
import Derived.Test.YtcdgpekefiplnaaPnQ
import Derived.Test.YtcdgpekefiplnaaRsA
namespace Go.Proofs.Ytcdgpekefiplnaa
open Go.RowKit

/-- An inequality that is told, and whether there is one. -/
def QAns (w : World) (ok : Bool) (z : Int) (es : List Int) (e : Ending) (w' : World) : Prop :=
  ∃ A c, e = .returned (.tuple #[.agg #[.slice A es.length c, .int .i64 z], .bool ok]) ∧ IntsAt w' A es ∧ Below w.heap.size w w'
theorem GPost.ans {w : World} {q ok : Bool} {b z : Int} {cs es : List Int} {e : Ending} {w' : World} (h : GPost w q b cs e w') (h0 : q = ok) (h1 : zq ok cs = es) (h2 : zb ok b = z) : QAns w ok z es e w' := by
  subst h0 h1 h2
  exact h
theorem zq_len {q : Bool} {cs : List Int} {n : Nat} (h : cs.length ≤ n) : (zq q cs).length ≤ n := by
  unfold zq
  split
  · exact h
  · simp
theorem good_12 {vars b : Int} {cs : List Int} (h : goodQ vars b cs = true) : ∃ n : Nat, vars = n ∧ n ≤ 12 := by
  have := (good_q h).1
  exact ⟨vars.toNat, by omega, by omega⟩
theorem hold_add {n : Nat} {b d : Int} {cs ds : List Int} {m : Nat} (h1 : goodQ n b cs = true) (h2 : goodQ n d ds = true) : holdsQ cs b m = true → holdsQ ds d m = true → holdsQ (addQ cs ds) (b + d) m = true :=
  fun h3 h4 => addQ_holds (by have := (good_q h1).2.1; have := (good_q h2).2.1; omega) h3 h4
theorem div_some {k : Int} {cs : List Int} (h : (!(cs.any fun c => c.tmod k != 0)) = true) : ∀ c ∈ cs, c.tmod k = 0 := by
  intro c hc
  rw [Bool.not_eq_true', List.any_eq_false] at h
  have := h c hc
  simpa using this
theorem div_len (k : Int) (cs : List Int) : (divQ k cs).length = cs.length := by simp [divQ]
/-- One row in a row of rows. -/
theorem row_one {w : World} {v : Value} {c : List Int} {F : List Nat} (h : Ty.int.row true w v c F) (t : TypeId) : ∃ F', (Ty.slice Ty.int).row false (w.alloc (.cells #[v] t)) (.slice (some ⟨w.heap.size, 0, none⟩) 1 1) [c] F' := by
  have hlt := Ty.row_lt h
  have h' := Ty.row_grow h (bal (bb w) (.cells #[v] t))
  have hown : (w.alloc (.cells #[v] t)).ownsRow 0 t 1 (.slice (some ⟨w.heap.size, 0, none⟩) 1 1) [c].length [v] :=
    ⟨by simp, .inr ⟨w.heap.size, 1, #[v], rfl, Nat.zero_le _, heap_alloc_new w _, Nat.le_refl _, by decide, by simp, by simp⟩⟩
  obtain ⟨F', hr, -⟩ := Ty.row_of_owns (T := Ty.slice Ty.int) hown rfl (by decide) (Ty.all_one ⟨v, rfl, h'⟩)
  exact ⟨F', Ty.row_down hr⟩
theorem one_good {n : Nat} {c : List Int} (h : clauseB n c = true) : goodB n [c] = true := by
  have hp := clause_parts h
  unfold goodB inB
  simp only [Bool.and_eq_true, decide_eq_true_eq, List.all_eq_true]
  exact ⟨⟨⟨by omega, by omega⟩, by simp⟩, fun x hx => by rw [List.mem_singleton.1 hx]; exact h⟩
theorem bool3 : ∀ {a b c : Bool}, (a = true → b = true → c = true) → (a = true ∧ b = true ∧ c = true) ∨ a = false ∨ (a = true ∧ b = false) := by decide
end Go.Proofs.Ytcdgpekefiplnaa
