/- From the form's reading of an argument to 'Ty.rep'. No program in sight. -/
import Derived.Test.YtfhcdfaeokmboaaRepA
import Derived.ProofKit
import Derived.OpenShut
import Derived.Deep.Slices
namespace Go.Proofs.Ytfhcdfaeokmboaa
open Go.RowKit

/-- Whatever reads as data at type t holds data by T. -/
def Opens (P : Program) (t : TypeId) {α : Type} (T : Ty α) : Prop :=
  ∀ (H : Type) (enc : TypeId × Value → H) (w : World) (spare : Nat → Bool) (held : Bool) (fuel : Nat) (cs : List Value) (y : DataW H × List MemPlace),
    DataW.trod enc P w 0 spare held fuel t cs = some y → ∃ x F, T.rep false w cs x F

theorem Opens.int {P : Program} {t : TypeId} (ht : P.underlying t = some (.int .i64)) : Opens P t Ty.int := by
  intro H enc w spare held fuel cs y h
  obtain ⟨n, rfl, _, hw⟩ := DataW.trod_int ht h
  have := bounds_i64 hw
  exact ⟨n, [], rfl, by unfold I64; omega, rfl⟩
theorem Opens.bool {P : Program} {t : TypeId} (ht : P.underlying t = some .bool) : Opens P t Ty.bool := by
  intro H enc w spare held fuel cs y h
  obtain ⟨b, rfl, _⟩ := DataW.trod_bool ht h
  exact ⟨b, [], rfl, rfl⟩
theorem Opens.str {P : Program} {t : TypeId} (ht : P.underlying t = some .string) : Opens P t Ty.str := by
  intro H enc w spare held fuel cs y h
  obtain ⟨s, rfl, _, hw⟩ := DataW.trod_string ht h
  unfold maxLen at hw
  exact ⟨s, [], rfl, by omega, rfl⟩

/-- No field. -/
def Ty.unit : Ty Unit where
  size := 0
  rep _ _ cs _ F := cs = [] ∧ F = []
  len h := by obtain ⟨rfl, _⟩ := h; rfl
  lt h := by obtain ⟨_, rfl⟩ := h; simp
  keep h _ := h
  down h := h

/-- The fields from one place on. -/
def OpensF (P : Program) : List Field → Nat → {α : Type} → Ty α → Prop
  | fs, off, _, T => ∀ (H : Type) (enc : TypeId × Value → H) (w : World) (spare : Nat → Bool) (held : Bool) (fuel : Nat) (cs : List Value),
      cs.length = off + T.size → (∀ f ∈ fs, ∃ y : DataW H × List MemPlace, DataW.trod enc P w 0 spare held fuel f.type ((cs.drop f.offset).take (P.cellsOf f.type)) = some y) → ∃ x F, T.rep false w (cs.drop off) x F
theorem OpensF.nil {P : Program} {off : Nat} : OpensF P [] off Ty.unit := by
  intro H enc w spare held fuel cs hl _
  exact ⟨(), [], List.drop_of_length_le (by rw [hl]; exact Nat.le_refl _), rfl⟩
theorem OpensF.cons {P : Program} {f : Field} {fs : List Field} {off : Nat} {α β : Type} {T : Ty α} {U : Ty β} (ho : f.offset = off) (hs : P.cellsOf f.type = T.size) (hT : Opens P f.type T) (hU : OpensF P fs (off + T.size) U) :
    OpensF P (f :: fs) off (T.pair U) := by
  intro H enc w spare held fuel cs hl hf
  obtain ⟨y, hy⟩ := hf f List.mem_cons_self
  obtain ⟨x, F, hx⟩ := hT H enc w spare held fuel _ y hy
  obtain ⟨z, G, hz⟩ := hU H enc w spare held fuel cs (by rw [hl]; exact (Nat.add_assoc _ _ _).symm) (fun g hg => hf g (List.mem_cons_of_mem _ hg))
  refine ⟨(x, z), F ++ G, _, _, F, G, ?_, rfl, hx, hz⟩
  rw [ho, hs, ← List.drop_drop, List.take_append_drop]
theorem Opens.struct {P : Program} {t : TypeId} {fs : Array Field} {α : Type} {T : Ty α} (ht : P.underlying t = some (.struct fs)) (hC : P.cellsOf t = T.size) (hf : OpensF P fs.toList 0 T) : Opens P t T := by
  intro H enc w spare held fuel cs y h
  obtain ⟨xs, n, _, rfl, hl, hlen, hxs⟩ := DataW.trod_struct ht h
  have := hf H enc w spare held n cs (by rw [hl, hC]; omega) (fun f hm => by
    obtain ⟨i, hi, e⟩ := List.getElem_of_mem hm
    have hi' : i < xs.length := by rw [hlen]; simpa using hi
    exact ⟨xs[i], by
      have h1 := hxs i f (by simpa [e] using (Array.getElem?_eq_getElem (xs := fs) (by simpa using hi)).trans (congrArg some (by simpa using e)))
      simpa [hi'] using h1⟩)
  simpa using this
theorem Opens.as {P : Program} {t : TypeId} {α β : Type} {T : Ty α} (g : β → α) (f : α → β) (hg : ∀ x, g (f x) = x) (h : Opens P t T) : Opens P t (T.as g) := by
  intro H enc w spare held fuel cs y hy
  obtain ⟨x, F, hx⟩ := h H enc w spare held fuel cs y hy
  exact ⟨f x, F, by show T.rep false w cs (g (f x)) F; rw [hg]; exact hx⟩
end Go.Proofs.Ytfhcdfaeokmboaa
