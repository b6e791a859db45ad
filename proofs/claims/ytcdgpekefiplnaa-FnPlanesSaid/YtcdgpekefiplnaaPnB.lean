/- Memory: rows of numbers that can be read. -/
import Derived.Test.YtcdgpekefiplnaaPnA
import Derived.Test.YtcdgpekefiplnaaSepB
import Derived.Test.YtcdgpekefiplnaaMemB
import Derived.Test.YtcdgpekefiplnaaOwnB
namespace Go.Proofs.Ytcdgpekefiplnaa
open Go.RowKit

/-- A row of numbers that can be read. -/
structure IntsAt (w : World) (A : Option Addr) (cs : List Int) : Prop where
  at_ : ∀ j (hj : j < cs.length), ∃ b off, A = some ⟨b, off, none⟩ ∧ w.cell? ⟨b, off + j, none⟩ = some (.int .i64 cs[j])
  ok : ∀ c ∈ cs, I64 c
theorem IntsAt.grow {w w' : World} {A : Option Addr} {cs : List Int} (h : IntsAt w A cs) (hb : Below w.heap.size w w') : IntsAt w' A cs := by
  refine ⟨fun j hj => ?_, h.ok⟩
  obtain ⟨b, off, e, h1⟩ := h.at_ j hj
  exact ⟨b, off, e, (hb.cell (World.block_lt_of_cell? _ _ h1)).trans h1⟩
theorem IntsAt.keep {w w' : World} {A : Option Addr} {cs : List Int} (h : IntsAt w A cs) (hk : ∀ a, A = some a → w'.heap[a.block]? = w.heap[a.block]?) : IntsAt w' A cs := by
  refine ⟨fun j hj => ?_, h.ok⟩
  obtain ⟨b, off, e, h1⟩ := h.at_ j hj
  exact ⟨b, off, e, (World.cell?_of_block (a := ⟨b, off + j, none⟩) (hk ⟨b, off, none⟩ e)).trans h1⟩
theorem IntsAt.set {w : World} {A : Option Addr} {cs : List Int} (h : IntsAt w A cs) {g : Nat} (hg : ∀ a, A = some a → a.block ≠ g) (o : Nat) (u : Value) : IntsAt (w.setCell ⟨g, o, none⟩ u) A cs :=
  h.keep fun a ha => Below.heap_setCell _ _ _ _ (hg a ha)
theorem IntsAt.chg {F : List Nat} {w w' : World} {A : Option Addr} {cs : List Int} (h : IntsAt w A cs) (hc : Chg F w w') (hF : ∀ a, A = some a → a.block ∉ F) : IntsAt w' A cs := by
  refine ⟨fun j hj => ?_, h.ok⟩
  obtain ⟨b, off, e, h1⟩ := h.at_ j hj
  exact ⟨b, off, e, (World.cell?_of_block (a := ⟨b, off + j, none⟩) (hc.block b (World.block_lt_of_cell? _ _ h1) (hF _ e))).trans h1⟩
theorem IntsAt.nil (w : World) (A : Option Addr) : IntsAt w A [] := ⟨fun j hj => absurd hj (by simp), by simp⟩
theorem ints_own {w : World} {B : Nat} {e : TypeId} {v : Value} {cs : List Int} (h : w.ownsRow B e 1 v cs.length (cs.map (.int .i64))) (hok : ∀ c ∈ cs, I64 c) : ∃ A c, v = .slice A cs.length c ∧ IntsAt w A cs := by
  obtain ⟨_, ⟨rfl, h0⟩ | ⟨g, cap, cur, rfl, _, hh, _, _, hs, ht⟩⟩ := h
  · exact ⟨none, 0, by rw [h0], fun j hj => absurd hj (by omega), hok⟩
  · refine ⟨_, cap, rfl, fun j hj => ⟨g, 0, rfl, ?_⟩, hok⟩
    rw [Nat.mul_one] at ht
    rw [Nat.zero_add, hown_cell hh ht hj]
    simp [hj]
theorem ints_row {wr : Bool} {w : World} {v : Value} {cs : List Int} {F : List Nat} (h : Ty.int.row wr w v cs F) : ∃ A c, v = .slice A cs.length c ∧ IntsAt w A cs := by
  obtain ⟨a, c, rfl, h1, h2, h64, h3⟩ := row_int h
  refine ⟨a, c, rfl, ⟨fun j hj => ?_, h64⟩⟩
  rcases h3 with ⟨rfl, _⟩ | ⟨_, b, off, rfl, _, hc⟩
  · exact absurd hj (by simp)
  · exact ⟨b, off, rfl, (hc j hj).1⟩
theorem IntsAt.get {w : World} {b off : Nat} {cs : List Int} (h : IntsAt w (some ⟨b, off, none⟩) cs) {j : Nat} (hj : j < cs.length) : w.cell? ⟨b, off + j, none⟩ = some (.int .i64 cs[j]) := by
  obtain ⟨b', off', e, h1⟩ := h.at_ j hj
  cases e
  exact h1
/-- A function of a number, told by what it answers. -/
def FnI (R : Int → Prop) (w0 : World) (g : FuncId) (cb : Array Value) (p : Int → Bool) : Prop :=
  ∀ (x : Int) w, R x → Below w0.heap.size w0 w → Calls Try.prog g (#[.int .i64 x] ++ cb) w fun e w' => e = .returned (.bool (p x)) ∧ Below w.heap.size w w'
/-- The function values that calls enter. -/
def Enter1 (g : FuncId) : Prop := ∀ args w, (callFunc g args).run Try.prog w = .ok (.enter g args) w
end Go.Proofs.Ytcdgpekefiplnaa
