/- From the form's reading of an argument to 'Ty.rep'. No program in sight. -/
import Derived.Test.YtcdgpekefiplnaaRepA
import Derived.ProofKit
import Derived.OpenShut
import Derived.Deep.Slices
namespace Go.Proofs.Ytcdgpekefiplnaa
open Go.RowKit Go.Deep

/-- Whatever reads as data at type t holds data by T. -/
def Opens (P : Program) (t : TypeId) {α : Type} (T : Ty α) : Prop :=
  ∀ (H : Type) (enc : TypeId × Value → H) (w : World) (spare : Nat → Bool) (held : Bool) (fuel : Nat) (cs : List Value) (y : DataW H × List MemPlace),
    DataW.trod enc P w 0 spare held fuel t cs = some y → ∃ x F, T.rep false w cs x F

theorem Opens.int {P : Program} {t : TypeId} (ht : P.underlying t = some (.int .i64)) : Opens P t Ty.int := by
  intro H enc w spare held fuel cs y h
  obtain ⟨n, rfl, _, hw⟩ := DataW.trod_int ht h
  have := bounds_i64 hw
  exact ⟨n, [], rfl, by unfold I64; omega, rfl⟩
theorem Opens.bool {P : Program} {t : TypeId} (ht : P.underlying t = some .bool) : Opens P t Ty.bool := by
  intro H enc w spare held fuel cs y h
  obtain ⟨b, rfl, _⟩ := DataW.trod_bool ht h
  exact ⟨b, [], rfl, rfl⟩
theorem Opens.str {P : Program} {t : TypeId} (ht : P.underlying t = some .string) : Opens P t Ty.str := by
  intro H enc w spare held fuel cs y h
  obtain ⟨s, rfl, _, hw⟩ := DataW.trod_string ht h
  unfold maxLen at hw
  exact ⟨s, [], rfl, by omega, rfl⟩

/-- No field. -/
def Ty.unit : Ty Unit where
  size := 0
  rep _ _ cs _ F := cs = [] ∧ F = []
  len h := by obtain ⟨rfl, _⟩ := h; rfl
  lt h := by obtain ⟨_, rfl⟩ := h; simp
  keep h _ := h
  down h := h

/-- The fields from one place on. -/
def OpensF (P : Program) : List Field → Nat → {α : Type} → Ty α → Prop
  | fs, off, _, T => ∀ (H : Type) (enc : TypeId × Value → H) (w : World) (spare : Nat → Bool) (held : Bool) (fuel : Nat) (cs : List Value),
      cs.length = off + T.size → (∀ f ∈ fs, ∃ y : DataW H × List MemPlace, DataW.trod enc P w 0 spare held fuel f.type ((cs.drop f.offset).take (P.cellsOf f.type)) = some y) → ∃ x F, T.rep false w (cs.drop off) x F
theorem OpensF.nil {P : Program} {off : Nat} : OpensF P [] off Ty.unit := by
  intro H enc w spare held fuel cs hl _
  exact ⟨(), [], List.drop_of_length_le (by rw [hl]; exact Nat.le_refl _), rfl⟩
theorem OpensF.cons {P : Program} {f : Field} {fs : List Field} {off : Nat} {α β : Type} {T : Ty α} {U : Ty β} (ho : f.offset = off) (hs : P.cellsOf f.type = T.size) (hT : Opens P f.type T) (hU : OpensF P fs (off + T.size) U) :
    OpensF P (f :: fs) off (T.pair U) := by
  intro H enc w spare held fuel cs hl hf
  obtain ⟨y, hy⟩ := hf f List.mem_cons_self
  obtain ⟨x, F, hx⟩ := hT H enc w spare held fuel _ y hy
  obtain ⟨z, G, hz⟩ := hU H enc w spare held fuel cs (by rw [hl]; exact (Nat.add_assoc _ _ _).symm) (fun g hg => hf g (List.mem_cons_of_mem _ hg))
  refine ⟨(x, z), F ++ G, _, _, F, G, ?_, rfl, hx, hz⟩
  rw [ho, hs, ← List.drop_drop, List.take_append_drop]
theorem Opens.struct {P : Program} {t : TypeId} {fs : Array Field} {α : Type} {T : Ty α} (ht : P.underlying t = some (.struct fs)) (hC : P.cellsOf t = T.size) (hf : OpensF P fs.toList 0 T) : Opens P t T := by
  intro H enc w spare held fuel cs y h
  obtain ⟨xs, n, _, rfl, hl, hlen, hxs⟩ := DataW.trod_struct ht h
  have := hf H enc w spare held n cs (by rw [hl, hC]; omega) (fun f hm => by
    obtain ⟨i, hi, e⟩ := List.getElem_of_mem hm
    have hi' : i < xs.length := by rw [hlen]; simpa using hi
    exact ⟨xs[i], by
      have h1 := hxs i f (by simpa [e] using (Array.getElem?_eq_getElem (xs := fs) (by simpa using hi)).trans (congrArg some (by simpa using e)))
      simpa [hi'] using h1⟩)
  simpa using this
theorem Opens.as {P : Program} {t : TypeId} {α β : Type} {T : Ty α} (g : β → α) (f : α → β) (hg : ∀ x, g (f x) = x) (h : Opens P t T) : Opens P t (T.as g) := by
  intro H enc w spare held fuel cs y hy
  obtain ⟨x, F, hx⟩ := h H enc w spare held fuel cs y hy
  exact ⟨f x, F, by show T.rep false w cs (g (f x)) F; rw [hg]; exact hx⟩

theorem add_spot {w : World} {a : Addr} {j : Nat} {v : Value} (h : w.cell? (a.add j) = some v) (hz : j = 0 ∨ 0 < j) : a.add j = ⟨a.block, a.off + j, none⟩ := by
  obtain ⟨b, o, s⟩ := a
  unfold Addr.add at *
  by_cases e : j = 0
  · subst e
    rw [if_pos rfl] at *
    cases s with
    | none => rfl
    | some x => simp [World.cell?] at h; split at h <;> simp at h
  · rw [if_neg e]

/-- Elements that can be read, one behind the other. -/
theorem Opens.elems {P : Program} {e : TypeId} {α : Type} {T : Ty α} (hC : P.cellsOf e = T.size) (hT : Opens P e T) {H : Type} {enc : TypeId × Value → H} {w : World} {spare : Nat → Bool} {held : Bool} {n : Nat} {a : Addr} :
    ∀ (len : Nat), (∀ i, i < len → ∃ cs' y, w.cells? 0 (a.add (i * P.cellsOf e)) (P.cellsOf e) = some cs' ∧ DataW.trod enc P w 0 spare held n e cs' = some y) →
      ∃ (xs : List α) (cs : List Value) (G : List Nat), xs.length = len ∧ T.all false w cs xs G ∧ ∀ j (hj : j < cs.length), w.cell? ⟨a.block, a.off + j, none⟩ = some cs[j]
  | 0, _ => ⟨[], [], [], rfl, ⟨rfl, rfl⟩, by simp⟩
  | len + 1, h => by
    obtain ⟨xs, cs, G, hl, hall, hc⟩ := Opens.elems hC hT len (fun i hi => h i (by omega))
    obtain ⟨cs', y, h1, h2⟩ := h len (by omega)
    obtain ⟨_, hcl, hat⟩ := World.cells?_some h1
    obtain ⟨x, F, hx⟩ := hT H enc w spare held n cs' y h2
    have hlen := Ty.all_len hall
    refine ⟨xs ++ [x], cs ++ cs', G ++ F, by simp [hl], Ty.all_snoc hall hx, fun j hj => ?_⟩
    by_cases hj1 : j < cs.length
    · rw [List.getElem_append_left hj1]; exact hc j hj1
    · rw [List.getElem_append_right (by omega)]
      have hj2 : j - cs.length < cs'.length := by rw [List.length_append] at hj; omega
      have h3 := hat (j - cs.length) (by omega)
      rw [add_add] at h3
      have e1 : len * P.cellsOf e + (j - cs.length) = j := by rw [hC, ← hl, ← hlen]; omega
      rw [e1, List.getElem?_eq_getElem hj2] at h3
      rw [← add_spot h3 (by omega)]; exact h3
theorem Opens.slice {P : Program} {t e : TypeId} {α : Type} {T : Ty α} (ht : P.underlying t = some (.slice e)) (hC : P.cellsOf e = T.size) (hs : 0 < T.size) (hT : Opens P e T) : Opens P t T.slice := by
  intro H enc w spare held fuel cs y h
  rcases open_slice ht h with ⟨rfl, _⟩ | ⟨a, len, cap, m, n, D, Pl, rfl, _, hl, hm, hmm, _, hi⟩
  · exact ⟨[], [], _, rfl, Ty.row_nil _ _ _ _ _ (by decide)⟩
  · have hle : len ≤ m := by rw [hmm]; split <;> omega
    obtain ⟨xs, ccs, G, hxl, hall, hc⟩ := Opens.elems (P := P) (e := e) (a := a) hC hT len (fun i hlt => by
      obtain ⟨cs', h1, h2⟩ := hi i (by omega)
      exact ⟨cs', _, h1, h2⟩)
    unfold maxLen at hm
    by_cases h0 : xs = []
    · subst h0
      obtain rfl : len = 0 := by simpa using hxl.symm
      exact ⟨[], [], _, rfl, Ty.row_nil _ _ _ _ _ (by omega)⟩
    · have hccs : ccs.length = xs.length * T.size := Ty.all_len hall
      have hp : 0 < xs.length := List.length_pos_iff.2 h0
      have h00 : 0 < ccs.length := by rw [hccs]; exact Nat.mul_pos hp hs
      have ha : a = ⟨a.block, a.off, none⟩ := by
        obtain ⟨cs', h1, _⟩ := hi 0 (by omega)
        obtain ⟨_, hcl, hat⟩ := World.cells?_some h1
        have h3 := hat 0 (by rw [hC]; exact hs)
        rw [add_add, List.getElem?_eq_getElem (by rw [hcl, hC]; exact hs)] at h3
        have := add_spot h3 (by omega)
        simpa [Addr.add] using this
      exact ⟨xs, a.block :: G, _, rfl, some a, cap, ccs, G, by rw [hxl], by omega, by omega, hall, .inr ⟨hs, h0, a.block, a.off, by rw [← ha], rfl, fun j hj => ⟨hc j hj, fun e => by cases e⟩⟩⟩
end Go.Proofs.Ytcdgpekefiplnaa
