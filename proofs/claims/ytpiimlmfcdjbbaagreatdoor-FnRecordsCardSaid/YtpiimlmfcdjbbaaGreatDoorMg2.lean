/- Lemmas and contracts for a law, put together out of several texts: SepA PlB MarkT HTail BookC BookF BookD BookE HTailB BookG BookH. -/
import Derived.Test.YtpiimlmfcdjbbaaGreatDoorMg1
import Derived.Maps.AppendAt
import Derived.Test.YtpiimlmfcdjbbaaGreatDoorProg
import Derived.WalkLawsBesides
import Derived.WalkSpells
import Derived.Laws.BytesString
import Derived.Lib.Hide
import Derived.Deep.RegionHeld
import Derived.StillTail
import Derived.Deep.RegionHeld3
import Derived.Test.YtpiimlmfcdjbbaaGreatDoorShelf
/- Memory in parts that do not meet: what a call has made. No program in sight. -/
namespace Go.Proofs.YtpiimlmfcdjbbaaGreatDoor
open Go.RowKit

/-- A part of the memory, with the blocks that it reaches. -/
structure Asn where
  p : World → List Nat → Prop
  lt : ∀ {w F}, p w F → ∀ b ∈ F, b < w.heap.size
  keep : ∀ {w w' F}, p w F → (∀ b ∈ F, w'.heap[b]? = w.heap[b]?) → p w' F

/-- All the parts, no two of which meet. -/
def sep : List Asn → World → List Nat → Prop
  | [], _, F => F = []
  | q :: ps, w, F => ∃ F1 F2, F = F1 ++ F2 ∧ (∀ b ∈ F1, b ∉ F2) ∧ q.p w F1 ∧ sep ps w F2

theorem sep_lt {w : World} : ∀ {ps : List Asn} {F : List Nat}, sep ps w F → ∀ b ∈ F, b < w.heap.size
  | [], _, h => by subst h; simp
  | q :: ps, _, h => by
    obtain ⟨F1, F2, rfl, _, h1, h2⟩ := h
    intro b hb
    rcases List.mem_append.1 hb with hb | hb
    · exact q.lt h1 b hb
    · exact sep_lt h2 b hb
theorem sep_keep {w w' : World} : ∀ {ps : List Asn} {F : List Nat}, sep ps w F → (∀ b ∈ F, w'.heap[b]? = w.heap[b]?) → sep ps w' F
  | [], _, h, _ => h
  | q :: ps, _, h, hk => by
    obtain ⟨F1, F2, rfl, hd, h1, h2⟩ := h
    exact ⟨F1, F2, rfl, hd, q.keep h1 fun b hb => hk b (List.mem_append.2 (.inl hb)), sep_keep h2 fun b hb => hk b (List.mem_append.2 (.inr hb))⟩
theorem sep_upd {w : World} : ∀ {ps : List Asn} {F : List Nat} {i : Nat} {q : Asn}, sep ps w F → ps[i]? = some q →
    ∃ Fi, q.p w Fi ∧ (∀ b ∈ Fi, b ∈ F) ∧ ∀ w' q' Fi', Chg Fi w w' → q'.p w' Fi' → (∀ b ∈ Fi', b ∈ Fi ∨ w.heap.size ≤ b) → ∃ F', sep (ps.set i q') w' F' ∧ ∀ b ∈ F', b ∈ F ∨ w.heap.size ≤ b
  | [], _, _, _, _, h => by simp at h
  | q :: ps, _, 0, q0, h, hi => by
    obtain ⟨F1, F2, rfl, hd, h1, h2⟩ := h
    simp at hi; subst hi
    refine ⟨F1, h1, fun b hb => List.mem_append.2 (.inl hb), fun w' q' Fi' hc hq hF => ⟨Fi' ++ F2, ⟨Fi', F2, rfl, fun b hb hb2 => ?_, hq, sep_keep h2 fun b hb => hc.block b (sep_lt h2 b hb) fun hb1 => hd b hb1 hb⟩, fun b hb => ?_⟩⟩
    · rcases hF b hb with h | h
      · exact hd b h hb2
      · have := sep_lt h2 b hb2; omega
    · rcases List.mem_append.1 hb with hb | hb
      · exact (hF b hb).imp (fun h => List.mem_append.2 (.inl h)) id
      · exact .inl (List.mem_append.2 (.inr hb))
  | q :: ps, _, i + 1, q0, h, hi => by
    obtain ⟨F1, F2, rfl, hd, h1, h2⟩ := h
    obtain ⟨Fi, hp, hsub, hall⟩ := sep_upd (i := i) (q := q0) h2 (by simpa using hi)
    refine ⟨Fi, hp, fun b hb => List.mem_append.2 (.inr (hsub b hb)), fun w' q' Fi' hc hq hF => ?_⟩
    obtain ⟨F', hs, hF'⟩ := hall w' q' Fi' hc hq hF
    refine ⟨F1 ++ F', ⟨F1, F', rfl, fun b hb hb2 => ?_, q.keep h1 fun b hb => hc.block b (q.lt h1 b hb) fun hbi => hd b hb (hsub b hbi), hs⟩, fun b hb => ?_⟩
    · rcases hF' b hb2 with h | h
      · exact hd b hb h
      · have := q.lt h1 b hb; omega
    · rcases List.mem_append.1 hb with hb | hb
      · exact .inl (List.mem_append.2 (.inl hb))
      · exact (hF' b hb).imp (fun h => List.mem_append.2 (.inr h)) id

/-- Since w0 nothing old has turned; of what is new these are the parts. -/
def Sp (w0 w : World) (ps : List Asn) : Prop := Below w0.heap.size w0 w ∧ ∃ F, sep ps w F ∧ ∀ b ∈ F, w0.heap.size ≤ b

section
variable {w0 w w' : World} {ps : List Asn} {i : Nat} {q : Asn}
theorem Sp.start (w : World) : Sp w w [] := ⟨bb _, [], rfl, by simp⟩
theorem Sp.of_below (h : Below w0.heap.size w0 w) : Sp w0 w [] := ⟨h, [], rfl, by simp⟩
theorem Sp.below (h : Sp w0 w ps) : Below w0.heap.size w0 w := h.1
theorem Sp.grow (h : Sp w0 w ps) (hb : Below w.heap.size w w') : Sp w0 w' ps := by
  obtain ⟨h1, F, h2, h3⟩ := h
  exact ⟨btr h1 hb, F, sep_keep h2 fun b hm => hb.block b (sep_lt h2 b hm), h3⟩
theorem Sp.drew (h : Sp w0 w ps) : Sp w0 w.drew ps := h.grow (bdr (bb _))
theorem Sp.alloc (h : Sp w0 w ps) (o : Obj) : Sp w0 (w.alloc o) ps := h.grow (bal (bb _) o)
theorem Sp.upd (h : Sp w0 w ps) (hi : ps[i]? = some q) : ∃ Fi, q.p w Fi ∧ (∀ b ∈ Fi, w0.heap.size ≤ b) ∧
    ∀ w' q' Fi', Chg Fi w w' → q'.p w' Fi' → (∀ b ∈ Fi', b ∈ Fi ∨ w.heap.size ≤ b) → Sp w0 w' (ps.set i q') := by
  obtain ⟨h1, F, h2, h3⟩ := h
  obtain ⟨Fi, hp, hsub, hall⟩ := sep_upd h2 hi
  refine ⟨Fi, hp, fun b hb => h3 b (hsub b hb), fun w' q' Fi' hc hq hF => ?_⟩
  obtain ⟨F', hs, hF'⟩ := hall w' q' Fi' hc hq hF
  exact ⟨h1.trans (hc.below h1.size fun b hb => h3 b (hsub b hb)), F', hs, fun b hb => (hF' b hb).elim (h3 b) (Nat.le_trans h1.size)⟩
theorem Sp.get (h : Sp w0 w ps) (hi : ps[i]? = some q) : ∃ Fi, q.p w Fi ∧ (∀ b ∈ Fi, w0.heap.size ≤ b) := by
  obtain ⟨Fi, h1, h2, _⟩ := h.upd hi
  exact ⟨Fi, h1, h2⟩
theorem Sp.new {F : List Nat} (h : Sp w0 w ps) (hb : Below w.heap.size w w') (hq : q.p w' F) (hF : ∀ b ∈ F, w.heap.size ≤ b) : Sp w0 w' (q :: ps) := by
  obtain ⟨h1, G, h2, h3⟩ := h
  have h4 := sep_keep h2 fun b hm => hb.block b (sep_lt h2 b hm)
  refine ⟨btr h1 hb, F ++ G, ⟨F, G, rfl, fun b hb1 hb2 => ?_, hq, h4⟩, fun b hm => ?_⟩
  · have := hF b hb1; have := sep_lt h2 b hb2; omega
  · rcases List.mem_append.1 hm with hm | hm
    · exact Nat.le_trans h1.size (hF b hm)
    · exact h3 b hm
theorem Sp.tail (h : Sp w0 w (q :: ps)) : Sp w0 w ps := by
  obtain ⟨h1, F, ⟨F1, F2, rfl, _, _, h2⟩, h3⟩ := h
  exact ⟨h1, F2, h2, fun b hb => h3 b (List.mem_append.2 (.inr hb))⟩
theorem Sp.head (h : Sp w0 w (q :: ps)) : ∃ F, q.p w F ∧ ∀ b ∈ F, w0.heap.size ≤ b := by
  obtain ⟨h1, F, ⟨F1, F2, rfl, _, h2, _⟩, h3⟩ := h
  exact ⟨F1, h2, fun b hb => h3 b (List.mem_append.2 (.inl hb))⟩
theorem Sp.swap {q' : Asn} (h : Sp w0 w (q :: q' :: ps)) : Sp w0 w (q' :: q :: ps) := by
  obtain ⟨h1, F, ⟨F1, F2, rfl, hd, h2, F3, F4, rfl, hd', h4, h5⟩, h3⟩ := h
  refine ⟨h1, F3 ++ (F1 ++ F4), ⟨F3, F1 ++ F4, rfl, fun b hb hb2 => ?_, h4, F1, F4, rfl, fun b hb hb2 => hd b hb (List.mem_append.2 (.inr hb2)), h2, h5⟩, fun b hb => h3 b ?_⟩
  · rcases List.mem_append.1 hb2 with h | h
    · exact hd b h (List.mem_append.2 (.inl hb))
    · exact hd' b hb h
  · simp only [List.mem_append] at hb ⊢
    rcases hb with h | h | h
    · exact .inr (.inl h)
    · exact .inl h
    · exact .inr (.inr h)
end

/-- A block that is known whole. -/
def Box (b : Nat) (t : TypeId) (cs : Array Value) : Asn where
  p w F := F = [b] ∧ w.heap[b]? = some (.cells cs t (0, 0))
  lt := by
    rintro w F ⟨rfl, h⟩ b' hb
    obtain rfl : b' = b := by simpa using hb
    rcases Nat.lt_or_ge b' w.heap.size with h' | h'
    · exact h'
    · rw [Array.getElem?_eq_none h'] at h; cases h
  keep := by
    rintro w w' F ⟨rfl, h⟩ hk
    exact ⟨rfl, (hk b (by simp)).trans h⟩

section
variable {w0 w w' : World} {ps : List Asn} {i b o : Nat} {t : TypeId} {cs : Array Value}
theorem Sp.box (h : Sp w0 w ps) (hi : ps[i]? = some (Box b t cs)) : w0.heap.size ≤ b ∧ b < w.heap.size ∧ w.heap[b]? = some (.cells cs t (0, 0)) := by
  obtain ⟨F, hp, hF⟩ := h.get hi
  have hlt := (Box b t cs).lt hp b
  obtain ⟨rfl, hh⟩ := hp
  exact ⟨hF b (by simp), hlt (by simp), hh⟩
theorem Sp.cell (h : Sp w0 w ps) (hi : ps[i]? = some (Box b t cs)) {u : Value} (ho : cs[o]? = some u) : w.cell? ⟨b, o, none⟩ = some u := by
  simp [World.cell?, (h.box hi).2.2, ho]
theorem Sp.frozen (h : Sp w0 w ps) (hi : ps[i]? = some (Box b t cs)) (o : Nat) : w.frozen? ⟨b, o, none⟩ = false := by
  simp [World.frozen?, (h.box hi).2.2]
theorem Sp.store (h : Sp w0 w ps) (hi : ps[i]? = some (Box b t cs)) (o : Nat) (u : Value) : Sp w0 (w.setCell ⟨b, o, none⟩ u) (ps.set i (Box b t (cs.setIfInBounds o u))) := by
  obtain ⟨F, ⟨rfl, hh⟩, hF, hall⟩ := h.upd hi
  refine hall _ _ [b] ((Chg.refl _ _).set (by simp) _) ⟨rfl, ?_⟩ (fun b hb => .inl hb)
  simp [World.setCell, Array.getElem?_modify, hh]
theorem Sp.alloc_box (h : Sp w0 w ps) (cs : Array Value) (t : TypeId) : Sp w0 (w.alloc (.cells cs t)) (Box w.heap.size t cs :: ps) :=
  h.new (bal (bb _) _) (F := [w.heap.size]) ⟨rfl, heap_alloc_new w _⟩ (by simp)
end

theorem owns_keep {w w' : World} {B : Nat} {e : TypeId} {size : Nat} {v : Value} {n : Nat} {xs : List Value} (h : w.ownsRow B e size v n xs) (hk : ∀ g, v.ownBlock = some g → w'.heap[g]? = w.heap[g]?) : w'.ownsRow B e size v n xs := by
  obtain ⟨hl, h | ⟨g, cap, cur, rfl, hg, hh, r⟩⟩ := h
  · exact ⟨hl, .inl h⟩
  · exact ⟨hl, .inr ⟨g, cap, cur, rfl, hg, (hk g rfl).trans hh, r⟩⟩
theorem owns_lt {w : World} {B : Nat} {e : TypeId} {size : Nat} {v : Value} {n : Nat} {xs : List Value} (h : w.ownsRow B e size v n xs) {g : Nat} (hg : v.ownBlock = some g) : g < w.heap.size := by
  obtain ⟨hl, ⟨rfl, _⟩ | ⟨g', cap, cur, rfl, _, hh, r⟩⟩ := h
  · cases hg
  · obtain rfl : g' = g := by simpa [Value.ownBlock] using hg
    rcases Nat.lt_or_ge g' w.heap.size with h' | h'
    · exact h'
    · rw [Array.getElem?_eq_none h'] at hh; cases hh

/-- A row of the call's own. -/
def Own (e : TypeId) (size : Nat) (v : Value) (n : Nat) (xs : List Value) : Asn where
  p w F := F = v.ownBlock.toList ∧ w.ownsRow 0 e size v n xs
  lt := by
    rintro w F ⟨rfl, h⟩ b hb
    exact owns_lt h (by simpa using hb)
  keep := by
    rintro w w' F ⟨rfl, h⟩ hk
    exact ⟨rfl, owns_keep h fun g hg => hk g (by simp [hg])⟩

section
variable {w0 w w1 w' : World} {ps : List Asn} {i n n' size : Nat} {e : TypeId} {v v' : Value} {xs xs' : List Value}
theorem Sp.own (h : Sp w0 w ps) (hi : ps[i]? = some (Own e size v n xs)) : w.ownsRow 0 e size v n xs := by
  obtain ⟨F, hp, _⟩ := h.get hi
  exact hp.2
/-- Behind an append to an own row. -/
theorem Sp.own_push (h : Sp w0 w ps) (hi : ps[i]? = some (Own e size v n xs)) (hb : Below w.heap.size w w1) (ho : w'.ownsRow 0 e size v' n' xs') (hg : w1.grownBy w' v.ownBlock)
    (hat : v'.ownBlock = v.ownBlock ∨ v'.ownBlock = some w1.heap.size) : Sp w0 w' (ps.set i (Own e size v' n' xs')) := by
  obtain ⟨F, ⟨rfl, hh⟩, hF, hall⟩ := h.upd hi
  refine hall w' _ v'.ownBlock.toList ?_ ⟨rfl, ho⟩ fun b hm => ?_
  · exact ⟨hg.os.trans hb.os, hg.tape.trans hb.tape, hg.output.trans hb.output, Nat.le_trans hb.size hg.size, fun k hk hn =>
      (hg.block k (Nat.lt_of_lt_of_le hk hb.size) (fun e => hn (by simp [← e]))).trans (hb.block k hk)⟩
  · rcases hat with h1 | h1
    · exact .inl (by rw [h1] at hm; exact hm)
    · rw [h1] at hm
      obtain rfl : b = w1.heap.size := by simpa using hm
      exact .inr hb.size
/-- A new own row. -/
theorem Sp.own_new (h : Sp w0 w ps) (hb : Below w.heap.size w w') (ho : w'.ownsRow 0 e size v n xs) (hv : ∀ g, v.ownBlock = some g → w.heap.size ≤ g) : Sp w0 w' (Own e size v n xs :: ps) :=
  h.new hb (F := v.ownBlock.toList) ⟨rfl, ho⟩ fun b hm => hv b (by simpa using hm)
theorem Sp.own_nil (h : Sp w0 w ps) (e : TypeId) (size : Nat) : Sp w0 w (Own e size (.slice none 0 0) 0 [] :: ps) :=
  h.own_new (bb _) (World.ownsRow_nil _ _ _ _) (fun g hg => by cases hg)
theorem Sp.own_made (h : Sp w0 w ps) (e : TypeId) (size : Nat) : Sp w0 (w.alloc (.cells #[] e)) (Own e size (.slice (some ⟨w.heap.size, 0, none⟩) 0 0) 0 [] :: ps) :=
  h.own_new (bal (bb _) _) ⟨by simp, .inr ⟨w.heap.size, 0, #[], rfl, Nat.zero_le _, heap_alloc_new w _, Nat.le_refl _, by decide, by simp, by simp⟩⟩ (fun g hg => by
    have : w.heap.size = g := by simpa [Value.ownBlock] using hg
    omega)
end

/-- A row with all that it reaches, all of it the call's own. -/
def Row {α : Type} (T : Ty α) (v : Value) (xs : List α) : Asn where
  p w F := T.row true w v xs F ∧ F.Nodup
  lt h := Ty.row_lt h.1
  keep h hk := ⟨Ty.row_keep h.1 hk, h.2⟩

/-- An own row of own rows, as far as it has grown. -/
def Rows {α : Type} (T : Ty α) (e : TypeId) (v : Value) (cs : List Value) (xss : List (List α)) : Asn where
  p w F := ∃ G, F = v.ownBlock.toList ++ G ∧ F.Nodup ∧ (Ty.slice T).all true w cs xss G ∧ w.ownsRow 0 e 1 v xss.length cs
  lt := by
    rintro w F ⟨G, rfl, _, h1, h2⟩ b hb
    rcases List.mem_append.1 hb with hb | hb
    · exact owns_lt h2 (by simpa using hb)
    · exact Ty.all_lt h1 b hb
  keep := by
    rintro w w' F ⟨G, rfl, h0, h1, h2⟩ hk
    exact ⟨G, rfl, h0, Ty.all_keep h1 fun b hb => hk b (List.mem_append.2 (.inr hb)), owns_keep h2 fun g hg => hk g (by simp [hg])⟩

section
variable {α : Type} {T : Ty α} {w0 w w1 w' : World} {ps : List Asn} {i : Nat} {e : TypeId} {v v' u : Value} {cs : List Value} {xss : List (List α)} {ys : List α}
theorem Sp.row_new {xs : List α} {F : List Nat} (h : Sp w0 w ps) (hb : Below w.heap.size w w') (hr : T.row true w' v xs F) (hn : F.Nodup) (hF : ∀ b ∈ F, w.heap.size ≤ b) : Sp w0 w' (Row T v xs :: ps) := h.new hb ⟨hr, hn⟩ hF
theorem Sp.rows (h : Sp w0 w ps) (hi : ps[i]? = some (Rows T e v cs xss)) : w.ownsRow 0 e 1 v xss.length cs := by
  obtain ⟨F, ⟨G, _, _, _, h⟩, _⟩ := h.get hi
  exact h
theorem Sp.rows_nil (h : Sp w0 w ps) (T : Ty α) (e : TypeId) : Sp w0 w (Rows T e (.slice none 0 0) [] [] :: ps) :=
  h.new (F := []) (bb _) ⟨[], rfl, by simp, ⟨rfl, rfl⟩, World.ownsRow_nil _ _ _ _⟩ (by simp)
theorem Sp.rows_made (h : Sp w0 w ps) (T : Ty α) (e : TypeId) : Sp w0 (w.alloc (.cells #[] e)) (Rows T e (.slice (some ⟨w.heap.size, 0, none⟩) 0 0) [] [] :: ps) :=
  h.new (F := [w.heap.size]) (bal (bb _) _) ⟨[], rfl, by simp, ⟨rfl, rfl⟩, ⟨by simp, .inr ⟨w.heap.size, 0, #[], rfl, Nat.zero_le _, heap_alloc_new w _, Nat.le_refl _, by decide, by simp, by simp⟩⟩⟩ (by simp)
/-- A row goes into a row of rows. -/
theorem Sp.rows_push (h : Sp w0 w (Row T u ys :: Rows T e v cs xss :: ps)) (hb : Below w.heap.size w w1) (ho : w'.ownsRow 0 e 1 v' (xss.length + 1) (cs ++ [u])) (hg : w1.grownBy w' v.ownBlock)
    (hat : v'.ownBlock = v.ownBlock ∨ v'.ownBlock = some w1.heap.size) : Sp w0 w' (Rows T e v' (cs ++ [u]) (xss ++ [ys]) :: ps) := by
  obtain ⟨h1, F, ⟨F1, F2, rfl, hd, ⟨hr, hn⟩, ⟨F3, F4, rfl, hd', ⟨G, rfl, hn', hall, hown⟩, h5⟩⟩, h3⟩ := h
  have hr1 := Ty.row_keep hr fun b hm => hb.block b (Ty.row_lt hr b hm)
  have hall1 := Ty.all_keep hall fun b hm => hb.block b (Ty.all_lt hall b hm)
  have h51 := sep_keep h5 fun b hm => hb.block b (sep_lt h5 b hm)
  have hkeep : ∀ b, b < w.heap.size → (∀ g, v.ownBlock = some g → b ≠ g) → w'.heap[b]? = w1.heap[b]? := fun b hlt hne => hg.block b (Nat.lt_of_lt_of_le hlt hb.size) (fun e => hne b e.symm rfl)
  have hr2 := Ty.row_keep hr1 fun b hm => hkeep b (Ty.row_lt hr b hm) fun g hg' e => hd b hm (by simp [hg', e])
  have hnG : ∀ b ∈ G, ∀ g, v.ownBlock = some g → b ≠ g := fun b hm g hg' e => by
    rw [List.nodup_append] at hn'
    exact hn'.2.2 g (by simp [hg']) b hm e.symm
  have hall2 := Ty.all_keep hall1 fun b hm => hkeep b (Ty.all_lt hall b hm) (hnG b hm)
  have h52 := sep_keep h51 fun b hm => hkeep b (sep_lt h5 b hm) fun g hg' e => hd' b (by simp [hg', e]) hm
  have hlv : ∀ b ∈ v'.ownBlock.toList, b ∈ v.ownBlock.toList ∨ b = w1.heap.size := fun b hm => by
    rcases hat with h | h
    · left; rwa [h] at hm
    · right; rw [h] at hm; simpa using hm
  have hs := hb.size
  have hbel : Below w0.heap.size w0 w' := (btr h1 hb).trans ⟨hg.os, hg.tape, hg.output, hg.size, fun k hk => hg.block k (by have := h1.size; omega) (fun e => by have := h3 k (by simp [← e]); omega)⟩
  refine ⟨hbel, (v'.ownBlock.toList ++ (G ++ F1)) ++ F4, ⟨_, F4, rfl, ?_, ⟨G ++ F1, rfl, ?_, ?_, by simpa using ho⟩, h52⟩, ?_⟩
  · intro b hm hm4
    rcases List.mem_append.1 hm with hm | hm
    · rcases hlv b hm with h | h
      · exact hd' b (List.mem_append.2 (.inl h)) hm4
      · have := sep_lt h5 b hm4; omega
    · rcases List.mem_append.1 hm with hm | hm
      · exact hd' b (List.mem_append.2 (.inr hm)) hm4
      · exact hd b hm (List.mem_append.2 (.inr hm4))
  · refine List.nodup_append.2 ⟨by cases v'.ownBlock <;> simp, List.nodup_append.2 ⟨(List.nodup_append.1 hn').2.1, hn, fun x hx y hy e => hd y hy (by simp [← e, hx])⟩, fun x hx y hy e => ?_⟩
    subst e
    rcases hlv x hx with h | h
    · rcases List.mem_append.1 hy with hy | hy
      · exact (List.nodup_append.1 hn').2.2 x h x hy rfl
      · exact hd x hy (List.mem_append.2 (.inl (List.mem_append.2 (.inl h))))
    · rcases List.mem_append.1 hy with hy | hy
      · have := Ty.all_lt hall x hy; omega
      · have := Ty.row_lt hr x hy; omega
  · exact Ty.all_snoc hall2 ⟨u, rfl, hr2⟩
  · intro b hm
    rcases List.mem_append.1 hm with hm | hm
    · rcases List.mem_append.1 hm with hm | hm
      · rcases hlv b hm with h | h
        · exact h3 b (by simp at h ⊢; simp [h])
        · have := h1.size; omega
      · rcases List.mem_append.1 hm with hm | hm
        · exact h3 b (by simp [hm])
        · exact h3 b (by simp [hm])
    · exact h3 b (by simp [hm])
/-- The finished row of rows. -/
theorem Sp.rows_done (h : Sp w0 w ps) (hi : ps[i]? = some (Rows T e v cs xss)) : ∃ F, (Ty.slice T).row true w v xss F ∧ F.Nodup ∧ (∀ b ∈ F, w0.heap.size ≤ b) := by
  obtain ⟨F, ⟨G, rfl, hn, hall, hown⟩, hF⟩ := h.get hi
  obtain ⟨F', hr, hF', _⟩ := Ty.row_of_owns hown rfl (by decide) hall
  rcases hF' with rfl | ⟨g, _, _, ho, rfl⟩
  · exact ⟨[], hr, by simp, by simp⟩
  · refine ⟨g :: G, hr, ?_, ?_⟩
    · rw [ho] at hn; simpa using hn
    · rw [ho] at hF; simpa using hF
end

/-- append to an own row, as one step of a region that draws: with the place of the new row. -/
theorem step_append_at {P : Program} {ops : Array Oper} {o : Oper} {a : Act} {w : World} {K : Act → World → Prop} {Q : Exit → Act → World → Prop} {E : Prop} (hgd : o.guard = none) (s x : Operand) (t : TypeId)
    (ho : o.op = .call { callee := .builtin .append, args := #[s, x], argTypes := #[t, t] })
    (e : TypeId) (i : TypeInfo) (z : Value) (size bytes : Nat) (ht : P.underlying t = some (.slice e)) (hi : P.info? e = some i) (hz : i.zero = some z)
    (hsize : i.size = size) (hby : i.bytes = bytes) (hzs : z.cells.size = size) (hsz : 0 < size)
    (v : Value) (n : Nat) (xs : List Value) (hs : a.eval s = v) (hown : w.ownsRow 0 e size v n xs)
    (ad : Addr) (m c : Nat) (news : List Value) (hx : a.eval x = .slice (some ad) m c) (hl : news.length = m * size) (hnews : ∀ j u, news[j]? = some u → w.cell? (ad.add j) = some u) (h1 : ∀ u ∈ news, u.oneCell' = true)
    (h63 : n + m ≤ maxLen) (hbytes : (n + m) * bytes ≤ 140737488355328)
    (h : ∀ v' w', w'.ownsRow 0 e size v' (n + m) (xs ++ news) → w.grownBy w' v.ownBlock → (v'.ownBlock = v.ownBlock ∨ v'.ownBlock = some w.heap.size) → K (a.put o.dst v') w') :
    if Region.wanted o (yielded ops a.tmps) = true then Oper.wp P o a w K Q else E := by
  have hw : Region.wanted o (yielded ops a.tmps) = true := by simp [Region.wanted, hgd]
  rw [if_pos hw]
  obtain ⟨v', w', hr, h2, h3, _, h5⟩ := run_append_own_at (P := P) w 0 t o.type e i z size bytes ht hi hz hsize hby hzs hsz v n xs hown ad m c news hl hnews h1 h63 hbytes (Nat.zero_le _)
  unfold Oper.wp execOp
  simp only [ho, resolve, invoke, builtin, Sem.run_bind, Sem.run_pure, Result.andThen_ok, List.map_toArray, List.map_cons, List.map_nil, hs, hx, hr]
  exact h v' w' h2 h3 h5
theorem wpList_append_at {P : Program} {ops : Array Oper} {rest : List Oper} {o : Oper} {a : Act} {w : World} {Q : Exit → Act → World → Prop} (hgd : o.guard = none) (s x : Operand) (t : TypeId)
    (ho : o.op = .call { callee := .builtin .append, args := #[s, x], argTypes := #[t, t] })
    (e : TypeId) (i : TypeInfo) (z : Value) (size bytes : Nat) (ht : P.underlying t = some (.slice e)) (hi : P.info? e = some i) (hz : i.zero = some z)
    (hsize : i.size = size) (hby : i.bytes = bytes) (hzs : z.cells.size = size) (hsz : 0 < size)
    (v : Value) (n : Nat) (xs : List Value) (hs : a.eval s = v) (hown : w.ownsRow 0 e size v n xs)
    (ad : Addr) (m c : Nat) (news : List Value) (hx : a.eval x = .slice (some ad) m c) (hl : news.length = m * size) (hnews : ∀ j u, news[j]? = some u → w.cell? (ad.add j) = some u) (h1 : ∀ u ∈ news, u.oneCell' = true)
    (h63 : n + m ≤ maxLen) (hbytes : (n + m) * bytes ≤ 140737488355328)
    (h : ∀ v' w', w'.ownsRow 0 e size v' (n + m) (xs ++ news) → w.grownBy w' v.ownBlock → (v'.ownBlock = v.ownBlock ∨ v'.ownBlock = some w.heap.size) → wpList P ops Q rest (a.put o.dst v') w') :
    wpList P ops Q (o :: rest) a w :=
  wpList_append_own_at w hgd s x t ho 0 e i z size bytes ht hi hz hsize hby hzs hsz v n xs hs hown ad m c news hx hl hnews h1 h63 hbytes (Nat.zero_le _) fun v' w' h1 h2 _ h3 => h v' w' h1 h2 h3
theorem cell_alloc {w : World} {a : Addr} {u : Value} (h : w.cell? a = some u) (o : Obj) : (w.alloc o).cell? a = some u :=
  (World.cell?_alloc_lt _ _ _ (World.block_lt_of_cell? _ _ h)).trans h
theorem owns_form {w : World} {B : Nat} {e : TypeId} {size : Nat} {v : Value} {n : Nat} {xs : List Value} (h : w.ownsRow B e size v n xs) : ∃ a c, v = .slice a n c := by
  obtain ⟨_, ⟨rfl, rfl⟩ | ⟨g, cap, cur, rfl, _⟩⟩ := h
  · exact ⟨_, _, rfl⟩
  · exact ⟨_, _, rfl⟩
/-- One element that has just been laid in a block of its own. -/
theorem one_new {w : World} {x : Value} {t : TypeId} {b : Nat} (hb : b = w.heap.size) : ∀ j u, [x][j]? = some u → (w.alloc (.cells #[x] t)).cell? ((⟨b, 0, none⟩ : Addr).add j) = some u := by
  subst hb; exact cell_one_new w x t

section
variable {α : Type} {T : Ty α} {w0 w w' : World} {ps : List Asn} {i : Nat} {v : Value} {xs : List α}
theorem Sp.row_at (h : Sp w0 w ps) (hi : ps[i]? = some (Row T v xs)) : ∃ F, T.row false w v xs F := by
  obtain ⟨F, ⟨h1, _⟩, _⟩ := h.get hi
  exact ⟨F, Ty.row_down h1⟩
/-- A row is written. -/
theorem Sp.mark (h : Sp w0 w ps) (hi : ps[i]? = some (Row T v xs)) : ∃ F, T.row true w v xs F ∧ F.Nodup ∧ ∀ w' ys, T.row true w' v ys F → Chg F w w' → Sp w0 w' (ps.set i (Row T v ys)) := by
  obtain ⟨F, ⟨h1, h2⟩, _, hall⟩ := h.upd hi
  exact ⟨F, h1, h2, fun w' ys hr hc => hall w' (Row T v ys) F hc ⟨hr, h2⟩ fun b hb => .inl hb⟩
end
end Go.Proofs.YtpiimlmfcdjbbaaGreatDoor

/- Plain facts: decimals, checksums, sealed strings, splitting. No program in sight. -/
namespace Go.Proofs.YtpiimlmfcdjbbaaGreatDoor

theorem decDigits_big {u : Nat} (h : ¬ u < 10) : Lib.decDigits u = Lib.decDigits (u / 10) ++ [UInt8.ofNat (48 + u % 10)] := by rw [Lib.decDigits, dif_neg h]
theorem itoa_nat (u : Nat) : Lib.itoa u = Lib.decDigits u := by simp [Lib.itoa, Int.not_lt.2 (Int.natCast_nonneg u)]
theorem itoa_neg (u : Nat) (h : 0 < u) : Lib.itoa (-(u : Int)) = 45 :: Lib.decDigits u := by
  rw [Lib.itoa, if_pos (by omega)]; congr 2; omega
theorem digit_at : ∀ k : Nat, k < 10 → (ByteArray.mk #[48, 49, 50, 51, 52, 53, 54, 55, 56, 57]).extract k (k + 1) = ms [UInt8.ofNat (48 + k)] := by
  intro k hk
  apply bl_inj
  rw [bl_extract, bl_ms]
  match k, hk with
  | 0, _ => rfl
  | 1, _ => rfl
  | 2, _ => rfl
  | 3, _ => rfl
  | 4, _ => rfl
  | 5, _ => rfl
  | 6, _ => rfl
  | 7, _ => rfl
  | 8, _ => rfl
  | 9, _ => rfl
theorem decDigits_ne (u : Nat) : Lib.decDigits u ≠ [] := by
  by_cases h : u < 10
  · rw [Lib.decDigits, dif_pos h]; simp
  · rw [decDigits_big h]; simp
theorem decDigits_len : ∀ (k u : Nat), u < 10 ^ (k + 1) → (Lib.decDigits u).length ≤ k + 1
  | 0, u, h => by rw [Lib.decDigits, dif_pos (by simpa using h)]; simp
  | k + 1, u, h => by
    by_cases h1 : u < 10
    · rw [Lib.decDigits, dif_pos h1]; simp
    · rw [decDigits_big h1, List.length_append]
      have := decDigits_len k (u / 10) (by rw [Nat.pow_succ] at h; omega)
      simp; omega
theorem decDigits_digit : ∀ (n u : Nat), u ≤ n → ∀ c ∈ Lib.decDigits u, 48 ≤ c.toNat ∧ c.toNat ≤ 57
  | n, u, hn => by
    intro c hc
    by_cases h1 : u < 10
    · rw [Lib.decDigits, dif_pos h1] at hc
      simp at hc; subst hc
      simp; omega
    · rw [decDigits_big h1] at hc
      rcases List.mem_append.1 hc with hc | hc
      · cases n with
        | zero => omega
        | succ n => exact decDigits_digit n (u / 10) (by omega) c hc
      · simp at hc; subst hc
        simp; omega
termination_by n => n

/-- The checksum. -/
def sumB (l : List UInt8) : Int := l.foldl (fun h c => (41 * h + c.toNat + 1) % 999979) 7
theorem sumB_snoc (l : List UInt8) (c : UInt8) : sumB (l ++ [c]) = (41 * sumB l + c.toNat + 1) % 999979 := by simp [sumB]
theorem sumB_nil : sumB [] = 7 := rfl
theorem sumB_range (l : List UInt8) : 0 ≤ sumB l ∧ sumB l < 999979 := by
  rcases List.eq_nil_or_concat l with rfl | ⟨l', c, rfl⟩
  · exact ⟨by decide, by decide⟩
  · rw [List.concat_eq_append, sumB_snoc]; omega
/-- The sealed string. -/
def sealB (l : List UInt8) : List UInt8 := l ++ 35 :: Lib.itoa (sumB l)
theorem itoa_len {n : Int} (h0 : 0 ≤ n) (h : n < 1000000) : (Lib.itoa n).length ≤ 6 := by
  obtain ⟨u, rfl⟩ := Int.eq_ofNat_of_zero_le h0
  rw [itoa_nat]
  exact decDigits_len 5 u (by omega)
theorem sealB_length (l : List UInt8) : (sealB l).length ≤ l.length + 7 := by
  have := sumB_range l
  have := itoa_len this.1 (by omega)
  simp [sealB]; omega
end Go.Proofs.YtpiimlmfcdjbbaaGreatDoor

/- Contract: the text of a mark. -/
namespace Go.Proofs.YtpiimlmfcdjbbaaGreatDoor
open Go.RowKit

/-- The byte of a number. -/
def byteI (x : Int) : UInt8 := UInt8.ofNat x.toNat
theorem conv_one {P : Program} (src dst e : TypeId) (hs : P.underlying src = some (.slice e)) (he : P.underlying e = some (.int .u8)) (hd : P.underlying dst = some .string) (w : World) (x : Int) :
    (convert src dst (.slice (some ⟨w.heap.size, 0, none⟩) 1 1)).run P (w.alloc (.cells #[.int .u8 x] e)) = .ok (.string ⟨#[byteI x]⟩) (w.alloc (.cells #[.int .u8 x] e)) := by
  rw [run_convert_bytes_string _ src dst e _ 1 1 hs he hd]
  have hl := run_loadCells_list (P := P) (w.alloc (.cells #[.int .u8 x] e)) ⟨w.heap.size, 0, none⟩ ([x].map (Value.int .u8)) (fun j v hj => by
    match j, hj with
    | 0, hj => simp at hj; subst hj; simp [Addr.add])
  rw [run_bytesToString _ _ 1 1 [x] hl]
  rfl

/-- The digits of a number, none of 0. -/
def digs (n : Nat) : List UInt8 := if n = 0 then [] else Lib.decDigits n
theorem digs_step {n : Nat} (h : 0 < n) : digs n = digs (n / 10) ++ [UInt8.ofNat (48 + n % 10)] := by
  unfold digs
  rw [if_neg (by omega)]
  by_cases h1 : n < 10
  · rw [Lib.decDigits, dif_pos h1, if_pos (by omega)]
    simp [Nat.mod_eq_of_lt h1]
  · rw [decDigits_big h1, if_neg (by omega)]
theorem digs_len (n : Nat) (h : n ≤ 1000000000000000000) : (digs n).length ≤ 20 := by
  unfold digs
  split
  · simp
  · exact Nat.le_trans (decDigits_len 19 n (by omega)) (by omega)
/-- The text of a mark. -/
def markB (n : Nat) : List UInt8 := 109 :: digs n

/- left out: the seat has no laws.markText -/
end Go.Proofs.YtpiimlmfcdjbbaaGreatDoor

/- A region that draws its order: loads are taken first under a condition S that the other operations keep; the last operations, which stand in one forced order (a store, an assignment), need not keep it. No program in sight. -/
namespace Go.Proofs.YtpiimlmfcdjbbaaGreatDoor

section
variable {P : Program} {ops : Array Oper} {Q : Exit → Act → World → Prop} {md : Region.Mode} {S : World → Prop} {n : Nat} {L : Array Bool → Act → World → Prop}

/-- Whatever comes up is one of the first n; behind each S holds; behind them L. -/
def headH (P : Program) (md : Region.Mode) (ops : Array Oper) (Q : Exit → Act → World → Prop) (S : World → Prop) (n : Nat) (L : Array Bool → Act → World → Prop) : Nat → Array Bool → Act → World → Prop
  | 0, s, a, w => L s a w
  | f + 1, s, a, w => Region.ready md ops s ≠ [] ∧ ∀ i ∈ Region.ready md ops s, i < n ∧ wpOp P ops Q i (fun a' w' => S w' ∧ headH P md ops Q S n L f (s.setIfInBounds i true) a' w') a w

theorem any_of_headH {g : Nat} (hL : ∀ s a w, L s a w → wpAny P md ops Q g s a w) :
    ∀ (f : Nat) (s : Array Bool) (a : Act) (w : World), headH P md ops Q S n L f s a w → wpAny P md ops Q (f + g) s a w
  | 0, s, a, w, h => by rw [Nat.zero_add]; exact hL s a w h
  | f + 1, s, a, w, h => by
    rw [show f + 1 + g = (f + g) + 1 by omega]
    exact ⟨fun e => absurd e h.1, fun i hi => wpOp_mono (fun a' w' h' => any_of_headH hL f _ a' w' h'.2) (h.2 i hi).2⟩

theorem headH_first {i : Nat} {oi : Oper} {v : Value} (hi : ops[i]? = some oi) (hsel : ∀ (j : Nat) (o : Oper) cs b, ops[j]? = some o → o.op ≠ .select cs b)
    (hQ : ∀ c a w, Q (.panic c) (a.put oi.dst v) w → Q (.panic c) a w)
    (hs : Region.sinkB md ops n = true) (hc : Region.chainB md ops n = true) (hn : n < ops.size) (hin : i < n) (hL : ∀ s a w, L s a w → ∀ j ∈ Region.ready md ops s, n ≤ j) (f : Nat) :
    ∀ (s : Array Bool) (a : Act) (w : World), HeadInv md ops n s →
      (∀ j oj, ops[j]? = some oj → j ≠ i → s.getD j true = false → (∀ e ∈ oj.after, Region.binds md e = true → e.on ≠ i) → oi.apart ops oj = true) →
      i ∈ Region.ready md ops s → YieldsIf P ops S oi v a → S w → headH P md ops Q S n L f (s.setIfInBounds i true) (a.put oi.dst v) w → headH P md ops Q S n L (f + 1) s a w := by
  induction f with
  | zero =>
    intro s a w inv _ hr hy hS H
    refine ⟨List.ne_nil_of_mem hr, fun j hj => ?_⟩
    have hjn : j < n := Nat.lt_of_not_le fun h => tail_waits hs hc hn inv _ i rfl hin (mem_ready.1 hr).1 j h hj
    refine ⟨hjn, ?_⟩
    by_cases e : j = i
    · subst e; exact hy.wpOp hi hS ⟨hS, H⟩
    · exact absurd (hL _ _ _ H j (ready_mono hj e)) (by omega)
  | succ f ih =>
    intro s a w inv hfree hr hy hS H
    refine ⟨List.ne_nil_of_mem hr, fun j hj => ?_⟩
    have hjn : j < n := Nat.lt_of_not_le fun h => tail_waits hs hc hn inv _ i rfl hin (mem_ready.1 hr).1 j h hj
    refine ⟨hjn, ?_⟩
    by_cases e : j = i
    · subst e; exact hy.wpOp hi hS ⟨hS, H⟩
    · obtain ⟨hjs, oj, hoj, hall⟩ := mem_ready.1 hj
      have hno : ∀ e ∈ oj.after, Region.binds md e = true → e.on ≠ i := by
        intro x hx hb hxi
        have := hall x hx hb
        rw [hxi, getD_both (mem_ready.1 hr).1] at this; cases this
      have h1 := wpOp_putIf hoj (hfree j oj hoj e hjs hno) (fun cs b => hsel i oi cs b hi) (fun cs b => hsel j oj cs b hoj) hQ hy (H.2 j (ready_mono hj e)).2
      refine wpOp_mono (fun a' w' h2 => ⟨h2.2.1, ih (s.setIfInBounds j true) a' w' (inv.set hj hjn) (fun k ok hk hki hun hw => hfree k ok hk hki ?_ hw) (ready_mono hr (Ne.symm e)) h2.1 h2.2.1 ?_⟩) h1
      · by_cases hjk : j = k
        · subst hjk; exact hjs
        · rw [getD_set_ne true hjk] at hun; exact hun
      · rw [Array.setIfInBounds_comm _ _ e]; exact h2.2.2

/-- The walk's own judgement. -/
def walkT (P : Program) (md : Region.Mode) (ops : Array Oper) (Q : Exit → Act → World → Prop) (S : World → Prop) (n : Nat) (L : Array Bool → Act → World → Prop) (f : Nat) (s : Array Bool) (a : Act) (w : World) : Prop :=
  HeadInv md ops n s → headH P md ops Q S n L f s a w
/-- The checks on the region. -/
def tailOk (md : Region.Mode) (ops : Array Oper) (n : Nat) : Bool := Region.noSelect ops && decide (n < ops.size) && Region.sinkB md ops n && Region.chainB md ops n
/-- What stands behind the head: the rest in its one order. -/
def tailL (P : Program) (ops : Array Oper) (Q : Exit → Act → World → Prop) (n : Nat) (l : List Oper) (s : Array Bool) (a : Act) (w : World) : Prop :=
  Region.seqB .any ops l.length n s = true ∧ wpList P ops Q l a w

/-- Take number i first. -/
theorem walkT_take {i : Nat} {l : List Oper} {oi : Oper} {v : Value} {f : Nat} {s : Array Bool} {a : Act} {w : World} (hi : ops[i]? = some oi) (hok : tailOk .any ops n = true) (hin : i < n) (hf : Region.free .any ops s i = true)
    (hr : (Region.ready .any ops s).contains i = true) (hQ : ∀ c a w, Q (.panic c) (a.put oi.dst v) w → Q (.panic c) a w) (hy : YieldsIf P ops S oi v a) (hS : S w)
    (h : walkT P .any ops Q S n (tailL P ops Q n l) f (s.setIfInBounds i true) (a.put oi.dst v) w) : walkT P .any ops Q S n (tailL P ops Q n l) (f + 1) s a w := fun inv => by
  simp only [tailOk, Bool.and_eq_true, decide_eq_true_eq] at hok
  obtain ⟨⟨⟨hsel, hn⟩, hs⟩, hc⟩ := hok
  have hr' : i ∈ Region.ready .any ops s := by simpa using hr
  exact headH_first hi (Region.noSelect_spec hsel) hQ hs hc hn hin (fun s' a' w' hL => seqB_ready hL.1) f s a w inv (Region.free_spec hi hf) hr' hy hS (h (inv.set hr' hin))

/-- Each of the operations 'rs' comes up next. -/
def AllT (P : Program) (md : Region.Mode) (ops : Array Oper) (Q : Exit → Act → World → Prop) (S : World → Prop) (n : Nat) (L : Array Bool → Act → World → Prop) (f : Nat) (s : Array Bool) (a : Act) (w : World) (rs : List Nat) : Prop :=
  ∀ i ∈ rs, wpOp P ops Q i (fun a' w' => S w' ∧ walkT P md ops Q S n L f (s.setIfInBounds i true) a' w') a w
theorem AllT.nil {f : Nat} {s : Array Bool} {a : Act} {w : World} : AllT P md ops Q S n L f s a w [] := fun _ h => by cases h
theorem AllT.cons {f : Nat} {s : Array Bool} {a : Act} {w : World} {i : Nat} {o : Oper} {rs : List Nat} (ho : ops[i]? = some o)
    (h : ∀ K' : Act → World → Prop, Shut (∀ a w, S w → (S w → walkT P md ops Q S n L f (s.setIfInBounds i true) a w) → K' a w) → if Region.wanted o (yielded ops a.tmps) = true then Oper.wp P o a w K' Q else K' (a.put o.dst undef) w)
    (hs : AllT P md ops Q S n L f s a w rs) : AllT P md ops Q S n L f s a w (i :: rs) := fun j hj => by
  rcases List.mem_cons.1 hj with rfl | hj
  · exact wpOp_step ho (fun K' hK => h K' (fun a w hS hW => hK a w ⟨hS, hW hS⟩))
  · exact hs j hj
theorem walkT_ready {rs : List Nat} {f : Nat} {s : Array Bool} {a : Act} {w : World} (hr : Region.ready md ops s = rs) (hne : rs ≠ []) (hlt : rs.all (fun i => decide (i < n)) = true)
    (h : AllT P md ops Q S n L f s a w rs) : walkT P md ops Q S n L (f + 1) s a w := fun inv =>
  ⟨by rw [hr]; exact hne, fun i hi => by
    have hin : i < n := by simpa using List.all_eq_true.1 hlt i (hr ▸ hi)
    exact ⟨hin, wpOp_mono (fun a' w' h' => ⟨h'.1, h'.2 (inv.set hi hin)⟩) (h i (hr ▸ hi))⟩⟩
/-- The head is done. -/
theorem walkT_done {l : List Oper} {s : Array Bool} {a : Act} {w : World} (hs : Region.seqB .any ops l.length n s = true) (h : wpList P ops Q l a w) : walkT P .any ops Q S n (tailL P ops Q n l) 0 s a w := fun _ => ⟨hs, h⟩
end

/-- The beginning. -/
theorem wp_region_tail {P : Program} {S : World → Prop} {id : Nat} {Q : Exit → Act → World → Prop} {a : Act} {w : World} {l : List Oper} (n : Nat) (hm : P.follows .mixedOrders = true) (hok : tailOk .any l.toArray n = true) (hS : S w.drew)
    (h : S w.drew → walkT P .any l.toArray Q S n (tailL P l.toArray Q n (l.drop n)) n (Array.replicate l.toArray.size false) a w.drew) : (Code.region id l.toArray true).wp P Q a w := by
  have hn : n < l.length := by simp only [tailOk, Bool.and_eq_true, decide_eq_true_eq] at hok; simpa using hok.1.1.2
  have inv0 : HeadInv .any l.toArray n (Array.replicate l.toArray.size false) :=
    ⟨by simp, fun j oj _ hl => (by rw [getD_replicate_false] at hl; cases hl), fun t _ ht => getD_in (by simpa using ht) (getD_replicate_false _ _)⟩
  have hdl : (l.drop n).length = l.toArray.size - n := by simp
  refine wp_region_any hm ?_
  have H2 := any_of_headH (Q := Q) (g := l.toArray.size - n) (fun s a' w' hL => by
    have := wpAny_of_seq (md := .any) (Q' := Q) (l.drop n) n s a' w' (fun j => by simp [List.getElem?_drop]) hL.1 hL.2
    rwa [hdl] at this) _ _ _ _ (h hS inv0)
  rw [show n + (l.toArray.size - n) = l.toArray.size by simp; omega] at H2
  exact H2
/-- The same beginnings with the number of operations and the list of what has come up written out. -/
theorem wp_region_held_lit {P : Program} {S : World → Prop} {id : Nat} {Q : Exit → Act → World → Prop} {a : Act} {w : World} {l : List Oper} (N : Nat) (s0 : List Bool) (hN : l.length = N) (hs : Array.replicate l.toArray.size false = s0.toArray)
    (hm : P.follows .mixedOrders = true) (hS : S w.drew) (h : S w.drew → wpAnyH P .any l.toArray Q S N s0.toArray a w.drew) : (Code.region id l.toArray true).wp P Q a w := by
  subst hN
  refine wp_region_held_drew (S := S) hm hS fun hS' => ?_
  rw [hs]
  exact h hS'
theorem wp_region_tail_lit {P : Program} {S : World → Prop} {id : Nat} {Q : Exit → Act → World → Prop} {a : Act} {w : World} {l : List Oper} (n : Nat) (s0 : List Bool) (hs : Array.replicate l.toArray.size false = s0.toArray)
    (hm : P.follows .mixedOrders = true) (hok : tailOk .any l.toArray n = true) (hS : S w.drew)
    (h : S w.drew → walkT P .any l.toArray Q S n (tailL P l.toArray Q n (l.drop n)) n s0.toArray a w.drew) : (Code.region id l.toArray true).wp P Q a w := by
  refine wp_region_tail (S := S) n hm hok hS fun hS' => ?_
  rw [hs]
  exact h hS'
end Go.Proofs.YtpiimlmfcdjbbaaGreatDoor

/- Contracts: rows of records and of strings in the law. -/
namespace Go.Proofs.YtpiimlmfcdjbbaaGreatDoor
open Go.RowKit

/-- A record in memory: four cells. -/
def rcEnc (r : Rec) : List Value := [.string (ms r.name), .int .i64 r.sys, .int .i64 r.size, .int .i64 r.extra]
def rcOk (r : Rec) : Prop := r.name.length ≤ 9223372036854775807 ∧ I64 r.sys ∧ I64 r.size ∧ I64 r.extra
abbrev rcTy : Ty Rec := Ty.flat 4 rcEnc rcOk (fun _ => rfl)
/-- The four cells of each record. -/
theorem row_rc {wr : Bool} {w : World} {v : Value} {xs : List Rec} {F : List Nat} (h : rcTy.row wr w v xs F) :
    ∃ a cap, v = .slice a xs.length cap ∧ xs.length ≤ cap ∧ cap ≤ 9223372036854775807 ∧ (∀ x ∈ xs, rcOk x) ∧
      ((xs = [] ∧ F = []) ∨ (xs ≠ [] ∧ ∃ b off, a = some ⟨b, off, none⟩ ∧ F = [b] ∧ ∀ j (hj : j < xs.length), cellIs wr w b (off + j * 4) (.string (ms xs[j].name)) ∧ cellIs wr w b (off + j * 4 + 1) (.int .i64 xs[j].sys) ∧ cellIs wr w b (off + j * 4 + 2) (.int .i64 xs[j].size) ∧ cellIs wr w b (off + j * 4 + 3) (.int .i64 xs[j].extra))) := by
  obtain ⟨a, cap, rfl, h1, h2, h3, h4⟩ := row_flat h
  refine ⟨a, cap, rfl, h1, h2, h3, h4.imp id ?_⟩
  rintro ⟨_, hne, b, off, rfl, rfl, hc⟩
  exact ⟨hne, b, off, rfl, rfl, fun j hj => ⟨hc j hj 0 _ rfl, by have := hc j hj 1 _ rfl; rwa [← Nat.add_assoc] at this, by have := hc j hj 2 _ rfl; rwa [← Nat.add_assoc] at this, by have := hc j hj 3 _ rfl; rwa [← Nat.add_assoc] at this⟩⟩
/-- A record as a value. -/
abbrev rcV (r : Rec) : Value := .agg #[.string (ms r.name), .int .i64 r.sys, .int .i64 r.size, .int .i64 r.extra]

/-- The size of a book, as the law reckons it. -/
def nameTo (xs : List Rec) (k : Nat) : Nat := ((xs.take k).map (fun r => r.name.length)).sum
def bulkR (xs : List Rec) : Nat := xs.length + nameTo xs xs.length
theorem nameTo_succ (xs : List Rec) (k : Nat) (hk : k < xs.length) : nameTo xs (k + 1) = nameTo xs k + xs[k].name.length := by
  unfold nameTo; rw [List.take_succ_eq_append_getElem hk, List.map_append, List.sum_append]; simp
theorem nameTo_le (xs : List Rec) (k : Nat) : nameTo xs k ≤ nameTo xs xs.length := by
  unfold nameTo
  rw [List.take_length]
  conv => rhs; rw [← List.take_append_drop k xs]
  rw [List.map_append, List.sum_append]; omega
theorem name_le {xs : List Rec} {k : Nat} (hk : k < xs.length) : xs[k].name.length ≤ bulkR xs := by
  have h1 := nameTo_succ xs k hk
  have h2 := nameTo_le xs (k + 1)
  unfold bulkR; omega
def szR (n : Int) (b : Nat) : Int := if n < (b : Int) then -1 else n - b
theorem szR_no {n : Int} {b : Nat} (h : n < (b : Int)) : szR n b = -1 := if_pos h
theorem szR_yes {n : Int} {b : Nat} (h : (b : Int) ≤ n) : szR n b = n - b := if_neg (by omega)

/- left out: the seat has no laws.szRecord -/

/- left out: the seat has no laws.szRecordS -/

/- left out: the seat has no laws.toRecord -/

/- left out: the seat has no laws.eqRecord -/

/- left out: the seat has no laws.eqRecordS -/

theorem infoRc : (Tryz.prog.info? 30).map (fun i => (i.zero, i.size, i.bytes)) = some (some (.agg #[.string ByteArray.empty, .int .i64 0, .int .i64 0, .int .i64 0]), 4, 40) := by kernel_rfl
def rcZ : Rec := ⟨[], 0, 0, 0⟩

/- left out: the seat has no laws.toRecordS -/
end Go.Proofs.YtpiimlmfcdjbbaaGreatDoor

/- Contracts: names, and what is before what. -/
namespace Go.Proofs.YtpiimlmfcdjbbaaGreatDoor
open Go.RowKit

theorem name_step {l : List UInt8} {k : Nat} (hk : k < l.length) : (l.take (k + 1)).all nameC = ((l.take k).all nameC && nameC l[k]) := by
  rw [List.take_succ_eq_append_getElem hk, List.all_append]; simp
theorem name_no {l : List UInt8} {k : Nat} (hk : k < l.length) (h : nameC l[k] = false) : l.all nameC = false := by
  rw [List.all_eq_false]; exact ⟨_, List.getElem_mem hk, by simpa using h⟩
theorem nameC_lo {c : UInt8} (h : (c.toNat : Int) < 48) : nameC c = false := by simp [nameC, inB]; omega
theorem nameC_mid {c : UInt8} (h1 : (57 : Int) < c.toNat) (h2 : (c.toNat : Int) < 97) : nameC c = false := by simp [nameC, inB]; omega
theorem nameC_hi {c : UInt8} (h : (122 : Int) < c.toNat) : nameC c = false := by simp [nameC, inB]; omega
theorem nameC_dig {c : UInt8} (h1 : ¬ (c.toNat : Int) < 48) (h2 : ¬ (57 : Int) < c.toNat) : nameC c = true := by simp [nameC, inB]; omega
theorem nameC_let {c : UInt8} (h1 : ¬ (c.toNat : Int) < 97) (h2 : ¬ (122 : Int) < c.toNat) : nameC c = true := by simp [nameC, inB]; omega

set_option maxHeartbeats 2000000 in
theorem l31Name_any (s : ByteArray) (w : World) (hs : s.size ≤ 9223372036854775807) :
    Calls Tryz.prog 48 #[.string s] w fun e w' => e = .returned (.bool (nameB (bl s))) ∧ w = w' := by
  cases hq : inB (s.size : Int) 1 12
  · have hN : Hid (nameB (bl s) = false) := by unfold Hid nameB; rw [bl_length, hq]; rfl
    go_enter Tryz.func48, Tryz.ntmps48
    go_wp2_with (go_at_call 50; refine (l1In_any _ _ _ _).mono ?_; rw [hq]; rintro e w1 ⟨rfl, rfl⟩)
    go_ret
    exact ⟨ret_bool hN.out.symm, rfl⟩
  have hN : Hid (nameB (bl s) = (bl s).all nameC) := by unfold Hid nameB; rw [bl_length, hq]; rfl
  have h12 := (inB_true.1 hq).2
  go_enter Tryz.func48, Tryz.ntmps48
  go_wp2_with (go_at_call 50; refine (l1In_any _ _ _ _).mono ?_; rw [hq]; rintro e w1 ⟨rfl, rfl⟩)
  go_loop [3] (fun i => ∃ k : Nat, k ≤ s.size ∧ i = .int .i64 k ∧ Hid (((bl s).take k).all nameC = true)) (fun i => s.size - (intOf i).toNat)
  case atStart => exact ⟨0, Nat.zero_le _, rfl, by simp [Hid]⟩
  case round =>
    obtain ⟨k, hk, rfl, HD⟩ := hrel
    by_cases hlt : k < s.size
    · have hkl : k < (bl s).length := by rw [bl_length]; exact hlt
      have hge : (bl s)[k] = s[k] := bl_get s k hlt
      have hds := Lib.hid (name_step hkl)
      have hdn := Lib.hid (@name_no (bl s) k hkl)
      rw [hge] at hds hdn
      have hc256 := s[k].toNat_lt
      clear hge
      have no : nameC s[k] = false → Hid (nameB (bl s) = false) := fun h => by unfold Hid; rw [hN.out, hdn.out h]
      have yes : nameC s[k] = true → Hid (((bl s).take (k + 1)).all nameC = true) := fun h => by unfold Hid; rw [hds.out, HD.out, h]; rfl
      by_cases h1 : (s[k].toNat : Int) < 97
      · by_cases h3 : (s[k].toNat : Int) < 48
        · have hR := no (nameC_lo h3)
          clear no yes hds hdn HD
          go_wp2
          go_ret
          exact ⟨ret_bool hR.out.symm, rfl⟩
        · by_cases h4 : (57 : Int) < s[k].toNat
          · have hR := no (nameC_mid h4 h1)
            clear no yes hds hdn HD
            go_wp2
            go_ret
            exact ⟨ret_bool hR.out.symm, rfl⟩
          · have hR := yes (nameC_dig h3 h4)
            clear no yes hds hdn HD
            go_wp2
            go_round
            case rel => exact ⟨k + 1, by omega, by go_num, hR⟩
            case measure => simp [intOf]; omega
      · by_cases h2 : (122 : Int) < s[k].toNat
        · have hR := no (nameC_hi h2)
          have h3 : ¬ (s[k].toNat : Int) < 48 := by omega
          have h4 : (57 : Int) < s[k].toNat := by omega
          clear no yes hds hdn HD
          go_wp2
          go_ret
          exact ⟨ret_bool hR.out.symm, rfl⟩
        · have hR := yes (nameC_let h1 h2)
          clear no yes hds hdn HD
          go_wp2
          go_round
          case rel => exact ⟨k + 1, by omega, by go_num, hR⟩
          case measure => simp [intOf]; omega
    · obtain rfl : k = s.size := by omega
      have hR : Hid (nameB (bl s) = true) := by unfold Hid; rw [hN.out, ← HD.out, bl_take_all s _ (Nat.le_refl _)]
      clear HD hN
      go_wp2
      go_ret
      exact ⟨ret_bool hR.out.symm, rfl⟩

set_option maxHeartbeats 2000000 in
theorem nameOk_any (s : ByteArray) (w : World) (hs : s.size ≤ 9223372036854775807) :
    Calls Tryz.prog 22 #[.string s] w fun e w' => e = .returned (.bool (nameB (bl s))) ∧ w = w' := by
  go_enter Tryz.func22, Tryz.ntmps22
  go_wp2
  go_loop [7] (fun i => ∃ k : Nat, k ≤ s.size ∧ i = .int .i64 k ∧ Hid (((bl s).take k).all nameC = true)) (fun i => s.size - (intOf i).toNat)
  case atStart => exact ⟨0, Nat.zero_le _, rfl, by simp [Hid]⟩
  case round =>
    obtain ⟨k, hk, rfl, HD⟩ := hrel
    by_cases hlt : k < s.size
    · have hkl : k < (bl s).length := by rw [bl_length]; exact hlt
      have hge : (bl s)[k] = s[k] := bl_get s k hlt
      have hds := Lib.hid (name_step hkl)
      have hdn := Lib.hid (@name_no (bl s) k hkl)
      rw [hge] at hds hdn
      have hc256 := s[k].toNat_lt
      clear hge
      have no : nameC s[k] = false → Hid (nameB (bl s) = false) := fun h => by unfold Hid nameB; rw [hdn.out h, Bool.and_false]
      have yes : nameC s[k] = true → Hid (((bl s).take (k + 1)).all nameC = true) := fun h => by unfold Hid; rw [hds.out, HD.out, h]; rfl
      by_cases h1 : (s[k].toNat : Int) < 97
      · by_cases h3 : (s[k].toNat : Int) < 48
        · have hR := no (nameC_lo h3)
          clear no yes hds hdn HD
          go_wp2
          go_ret
          exact ⟨ret_bool hR.out.symm, rfl⟩
        · by_cases h4 : (57 : Int) < s[k].toNat
          · have hR := no (nameC_mid h4 h1)
            clear no yes hds hdn HD
            go_wp2
            go_ret
            exact ⟨ret_bool hR.out.symm, rfl⟩
          · have hR := yes (nameC_dig h3 h4)
            clear no yes hds hdn HD
            go_wp2
            go_round
            case rel => exact ⟨k + 1, by omega, by go_num, hR⟩
            case measure => simp [intOf]; omega
      · by_cases h2 : (122 : Int) < s[k].toNat
        · have hR := no (nameC_hi h2)
          have h3 : ¬ (s[k].toNat : Int) < 48 := by omega
          have h4 : (57 : Int) < s[k].toNat := by omega
          clear no yes hds hdn HD
          go_wp2
          go_ret
          exact ⟨ret_bool hR.out.symm, rfl⟩
        · have hR := yes (nameC_let h1 h2)
          clear no yes hds hdn HD
          go_wp2
          go_round
          case rel => exact ⟨k + 1, by omega, by go_num, hR⟩
          case measure => simp [intOf]; omega
    · obtain rfl : k = s.size := by omega
      have hR : Hid (nameB (bl s) = inB s.size 1 12) := by
        unfold Hid nameB
        have := HD.out
        rw [bl_take_all s _ (Nat.le_refl _)] at this
        rw [this, bl_length, Bool.and_true]
      clear HD
      go_wp2_with (go_at_call 24; refine (within_any _ _ _ _).mono ?_; rintro e w1 ⟨rfl, rfl⟩)
      go_ret
      exact ⟨ret_bool hR.out.symm, rfl⟩

set_option maxHeartbeats 400000 in
theorem l31System_any (x : Int) (w : World) : Calls Tryz.prog 49 #[.int .i64 x] w fun e w' => e = .returned (.bool (inB x 1 4)) ∧ w = w' := by
  go_enter Tryz.func49, Tryz.ntmps49
  go_wp2_with (go_at_call 50; refine (l1In_any _ _ _ _).mono ?_; rintro e w1 ⟨rfl, rfl⟩)
  go_ret
  exact ⟨rfl, rfl⟩
set_option maxHeartbeats 400000 in
theorem systemOk_any (x : Int) (w : World) : Calls Tryz.prog 23 #[.int .i64 x] w fun e w' => e = .returned (.bool (inB x 1 4)) ∧ w = w' := by
  go_enter Tryz.func23, Tryz.ntmps23
  go_wp2_with (go_at_call 24; refine (within_any _ _ _ _).mono ?_; rintro e w1 ⟨rfl, rfl⟩)
  go_ret
  exact ⟨rfl, rfl⟩
end Go.Proofs.YtpiimlmfcdjbbaaGreatDoor

/- Contracts: marks in rows of records and of strings. -/
namespace Go.Proofs.YtpiimlmfcdjbbaaGreatDoor
open Go.RowKit

/-- A part that is let go. -/
def Nix : Asn where
  p _ F := F = []
  lt := by rintro w F rfl x hx; simp at hx
  keep := by rintro w w' F rfl _; rfl
theorem Sp.spoil {α : Type} {T : Ty α} {w0 w : World} {ps : List Asn} {i : Nat} {v : Value} {xs : List α} (h : Sp w0 w ps) (hi : ps[i]? = some (Row T v xs)) :
    ∃ F, T.row true w v xs F ∧ F.Nodup ∧ ∀ w', Chg F w w' → Sp w0 w' (ps.set i Nix) := by
  obtain ⟨F, ⟨hr, hn⟩, hF, hall⟩ := h.upd hi
  exact ⟨F, hr, hn, fun w' hc => hall w' Nix [] hc rfl (fun b hb => by simp at hb)⟩

/-- The cells of a row may be written. -/
def FreeRel (b off n : Nat) (w wr : World) : Prop := (∀ q, q < n → ∃ u, cellIs true wr b (off + q) u) ∧ Chg [b] w wr
theorem FreeRel.step {b off n k : Nat} {w wr w1 : World} (h : FreeRel b off n w wr) (hb : Below wr.heap.size wr w1) (u : Value) : FreeRel b off n w (w1.setCell ⟨b, off + k, none⟩ u) := by
  refine ⟨fun q hq => ?_, (h.2.then hb).set (by simp) _⟩
  obtain ⟨v, hc0⟩ := h.1 q hq
  have hc := hc0.keep (hb.block b hc0.lt)
  by_cases e : q = k
  · subst e
    exact ⟨u, by rw [World.cell?_setCell_same' _ _ _ (by rw [hc.1]; rfl)], fun _ => by rw [World.frozen?_setCell]; exact hc.2 rfl⟩
  · exact ⟨v, by rw [World.cell?_setCell_other w1 _ _ _ (by simp only [ne_eq, Addr.mk.injEq]; omega)]; exact hc.1, fun _ => by rw [World.frozen?_setCell]; exact hc.2 rfl⟩
theorem FreeRel.cell {b off n : Nat} {w wr : World} (h : FreeRel b off n w wr) {q : Nat} (hq : q < n) : ∃ u, wr.cell? ⟨b, off + q, none⟩ = some u ∧ wr.frozen? ⟨b, off + q, none⟩ = false := by
  obtain ⟨u, hu⟩ := h.1 q hq
  exact ⟨u, hu.1, hu.2 rfl⟩

/- left out: the seat has no laws.markRecordS -/
end Go.Proofs.YtpiimlmfcdjbbaaGreatDoor

/- Contracts: rows of strings in the law. -/
namespace Go.Proofs.YtpiimlmfcdjbbaaGreatDoor
open Go.RowKit

def stEnc (s : List UInt8) : List Value := [.string (ms s)]
def stOk (s : List UInt8) : Prop := s.length ≤ 9223372036854775807
abbrev stTy : Ty (List UInt8) := Ty.flat 1 stEnc stOk (fun _ => rfl)
theorem row_st {wr : Bool} {w : World} {v : Value} {xs : List (List UInt8)} {F : List Nat} (h : stTy.row wr w v xs F) :
    ∃ a cap, v = .slice a xs.length cap ∧ xs.length ≤ cap ∧ cap ≤ 9223372036854775807 ∧ (∀ x ∈ xs, stOk x) ∧
      ((xs = [] ∧ F = []) ∨ (xs ≠ [] ∧ ∃ b off, a = some ⟨b, off, none⟩ ∧ F = [b] ∧ ∀ j (hj : j < xs.length), cellIs wr w b (off + j) (.string (ms xs[j])))) := by
  obtain ⟨a, cap, rfl, h1, h2, h3, h4⟩ := row_flat h
  refine ⟨a, cap, rfl, h1, h2, h3, h4.imp id ?_⟩
  rintro ⟨_, hne, b, off, rfl, rfl, hc⟩
  exact ⟨hne, b, off, rfl, rfl, fun j hj => by have := hc j hj 0 _ rfl; rwa [Nat.mul_one, Nat.add_zero] at this⟩
theorem row_st_mk {wr : Bool} {w : World} {b off cap : Nat} {xs : List (List UInt8)} (hg : ∀ x ∈ xs, stOk x) (h1 : xs.length ≤ cap) (h2 : cap ≤ 9223372036854775807) (hne : xs ≠ [])
    (hc : ∀ j (hj : j < xs.length), cellIs wr w b (off + j) (.string (ms xs[j]))) : stTy.row wr w (.slice (some ⟨b, off, none⟩) xs.length cap) xs [b] := by
  refine row_flat_mk hg h1 h2 hne (by decide) fun j hj i u hu => ?_
  match i, hu with
  | 0, hu => cases hu; rw [Nat.mul_one, Nat.add_zero]; exact hc j hj
  | i + 1, hu => simp [stEnc] at hu

/- left out: the seat has no laws.eqStringS -/

/-- Strings with marks. -/
def markSt (m n : Nat) : List (List UInt8) := (List.range n).map fun j => markB (m + j)
theorem markSt_length (m n : Nat) : (markSt m n).length = n := by simp [markSt]
theorem markSt_get (m n j : Nat) (h : j < (markSt m n).length) : (markSt m n)[j] = markB (m + j) := by simp [markSt]
theorem markB_len (n : Nat) (h : n ≤ 1000000000000000000) : (markB n).length ≤ 21 := by have := digs_len n h; simp [markB]; omega
theorem markSt_ok {m n : Nat} (h : m + n ≤ 1000000000000000000) : ∀ x ∈ markSt m n, stOk x := by
  intro x hx
  simp only [markSt, List.mem_map, List.mem_range] at hx
  obtain ⟨j, hj, rfl⟩ := hx
  have h1 := markB_len (m + j) (by omega)
  unfold stOk; omega
def MarkRelS (b off m : Nat) (xs : List (List UInt8)) (k : Nat) (w wr : World) : Prop :=
  (∀ q, q < xs.length → cellIs true wr b (off + q) (.string (ms (if q < k then markB (m + q) else xs.getD q [])))) ∧ Chg [b] w wr
theorem MarkRelS.step {b off m : Nat} {xs : List (List UInt8)} {k : Nat} {w wr w1 : World} (h : MarkRelS b off m xs k w wr) (hb : Below wr.heap.size wr w1) :
    MarkRelS b off m xs (k + 1) w (w1.setCell ⟨b, off + k, none⟩ (.string (ms (markB (m + k))))) := by
  refine ⟨fun q hq => ?_, (h.2.then hb).set (by simp) _⟩
  have hc0 := h.1 q hq
  have hc := hc0.keep (hb.block b hc0.lt)
  by_cases e : q = k
  · subst e
    refine ⟨?_, fun _ => ?_⟩
    · rw [World.cell?_setCell_same' _ _ _ (by rw [hc.1]; rfl)]
      simp
    · rw [World.frozen?_setCell]; exact hc.2 rfl
  · refine ⟨?_, fun _ => ?_⟩
    · rw [World.cell?_setCell_other w1 _ _ _ (by simp only [ne_eq, Addr.mk.injEq]; omega), hc.1]
      by_cases h1 : q < k
      · rw [if_pos h1, if_pos (show q < k + 1 by omega)]
      · rw [if_neg h1, if_neg (show ¬ q < k + 1 by omega)]
    · rw [World.frozen?_setCell]; exact hc.2 rfl

/- left out: the seat has no laws.markStringS -/

/- left out: the seat has no laws.heldStringS -/
end Go.Proofs.YtpiimlmfcdjbbaaGreatDoor

/- A region that draws its order: as HTail, but the operations of the tail may come up in whatever order among themselves, once the head is done. No program in sight. -/
namespace Go.Proofs.YtpiimlmfcdjbbaaGreatDoor

section
variable {P : Program} {ops : Array Oper} {Q : Exit → Act → World → Prop} {md : Region.Mode} {S : World → Prop} {n : Nat} {L : Array Bool → Act → World → Prop}

/-- Each operation behind number n waits for one of the tail that stands ahead of it. -/
def chainW (md : Region.Mode) (ops : Array Oper) (n : Nat) : Bool :=
  (List.range ops.size).all fun t => decide (t ≤ n) || (List.range t).any fun k => decide (n ≤ k) && Region.waitsFor md ops t k

theorem tail_waitsW {listed : Array Bool} (hs : Region.sinkB md ops n = true) (hc : chainW md ops n = true) (hn : n < ops.size) (inv : HeadInv md ops n listed) :
    ∀ (d i : Nat), n - i = d → i < n → listed.getD i true = false → ∀ t, n ≤ t → t ∉ Region.ready md ops listed := by
  intro d
  induction d using Nat.strongRecOn with
  | _ d ih =>
    intro i hd hi hun t ht hr
    obtain ⟨_, ot, hot, hall⟩ := mem_ready.1 hr
    have htlt : t < ops.size := (Array.getElem?_eq_some_iff.1 hot).1
    by_cases htn : t = n
    · subst htn
      have h1 := List.all_eq_true.1 hs i (List.mem_range.2 hi)
      obtain ⟨j, hj, hj2⟩ := List.any_eq_true.1 h1
      simp only [Bool.and_eq_true, decide_eq_true_eq] at hj2
      obtain ⟨oj, hoj, e, he, hb, hon⟩ := Region.waitsFor_spec hj2.2
      have hjle : j ≤ t := by have := List.mem_range.1 hj; omega
      by_cases hjt : j = t
      · subst hjt
        have : oj = ot := Option.some.inj (hoj.symm.trans hot)
        subst this
        have h2 := hall e he hb
        rw [hon, getD_both hun] at h2
        cases h2
      · cases hl : listed.getD j false with
        | true =>
          have h2 := inv.closed j oj hoj hl e he hb
          rw [hon, getD_both hun] at h2
          cases h2
        | false =>
          have hjs : j < listed.size := by rw [inv.size]; omega
          exact ih (t - j) (by omega) j rfl (by omega) (getD_in hjs hl) t (Nat.le_refl _) hr
    · have h1 := List.all_eq_true.1 hc t (List.mem_range.2 htlt)
      simp only [Bool.or_eq_true, decide_eq_true_eq] at h1
      rcases h1 with h1 | h1
      · omega
      · obtain ⟨k, hk, hk2⟩ := List.any_eq_true.1 h1
        simp only [Bool.and_eq_true, decide_eq_true_eq] at hk2
        have hkt := List.mem_range.1 hk
        obtain ⟨o', ho', e, he, hb, hon⟩ := Region.waitsFor_spec hk2.2
        have : o' = ot := Option.some.inj (ho'.symm.trans hot)
        subst this
        have h2 := hall e he hb
        rw [hon, getD_both (inv.tail k hk2.1 (by omega))] at h2
        cases h2

theorem headW_first {i : Nat} {oi : Oper} {v : Value} (hi : ops[i]? = some oi) (hsel : ∀ (j : Nat) (o : Oper) cs b, ops[j]? = some o → o.op ≠ .select cs b)
    (hQ : ∀ c a w, Q (.panic c) (a.put oi.dst v) w → Q (.panic c) a w)
    (hs : Region.sinkB md ops n = true) (hc : chainW md ops n = true) (hn : n < ops.size) (hin : i < n) (hL : ∀ s a w, L s a w → ∀ j ∈ Region.ready md ops s, n ≤ j) (f : Nat) :
    ∀ (s : Array Bool) (a : Act) (w : World), HeadInv md ops n s →
      (∀ j oj, ops[j]? = some oj → j ≠ i → s.getD j true = false → (∀ e ∈ oj.after, Region.binds md e = true → e.on ≠ i) → oi.apart ops oj = true) →
      i ∈ Region.ready md ops s → YieldsIf P ops S oi v a → S w → headH P md ops Q S n L f (s.setIfInBounds i true) (a.put oi.dst v) w → headH P md ops Q S n L (f + 1) s a w := by
  induction f with
  | zero =>
    intro s a w inv _ hr hy hS H
    refine ⟨List.ne_nil_of_mem hr, fun j hj => ?_⟩
    have hjn : j < n := Nat.lt_of_not_le fun h => tail_waitsW hs hc hn inv _ i rfl hin (mem_ready.1 hr).1 j h hj
    refine ⟨hjn, ?_⟩
    by_cases e : j = i
    · subst e; exact hy.wpOp hi hS ⟨hS, H⟩
    · exact absurd (hL _ _ _ H j (ready_mono hj e)) (by omega)
  | succ f ih =>
    intro s a w inv hfree hr hy hS H
    refine ⟨List.ne_nil_of_mem hr, fun j hj => ?_⟩
    have hjn : j < n := Nat.lt_of_not_le fun h => tail_waitsW hs hc hn inv _ i rfl hin (mem_ready.1 hr).1 j h hj
    refine ⟨hjn, ?_⟩
    by_cases e : j = i
    · subst e; exact hy.wpOp hi hS ⟨hS, H⟩
    · obtain ⟨hjs, oj, hoj, hall⟩ := mem_ready.1 hj
      have hno : ∀ e ∈ oj.after, Region.binds md e = true → e.on ≠ i := by
        intro x hx hb hxi
        have := hall x hx hb
        rw [hxi, getD_both (mem_ready.1 hr).1] at this; cases this
      have h1 := wpOp_putIf hoj (hfree j oj hoj e hjs hno) (fun cs b => hsel i oi cs b hi) (fun cs b => hsel j oj cs b hoj) hQ hy (H.2 j (ready_mono hj e)).2
      refine wpOp_mono (fun a' w' h2 => ⟨h2.2.1, ih (s.setIfInBounds j true) a' w' (inv.set hj hjn) (fun k ok hk hki hun hw => hfree k ok hk hki ?_ hw) (ready_mono hr (Ne.symm e)) h2.1 h2.2.1 ?_⟩) h1
      · by_cases hjk : j = k
        · subst hjk; exact hjs
        · rw [getD_set_ne true hjk] at hun; exact hun
      · rw [Array.setIfInBounds_comm _ _ e]; exact h2.2.2

/-- The checks on the region. -/
def tailOkW (md : Region.Mode) (ops : Array Oper) (n : Nat) : Bool := Region.noSelect ops && decide (n < ops.size) && Region.sinkB md ops n && chainW md ops n
/-- What stands behind the head: the rest, in whatever order. -/
def tailW (P : Program) (ops : Array Oper) (Q : Exit → Act → World → Prop) (n : Nat) (s : Array Bool) (a : Act) (w : World) : Prop :=
  (Region.ready .any ops s).all (fun j => decide (n ≤ j)) = true ∧ wpAnyH P .any ops Q (fun _ => True) (ops.size - n) s a w

/-- Take number i first. -/
theorem walkW_take {i : Nat} {oi : Oper} {v : Value} {f : Nat} {s : Array Bool} {a : Act} {w : World} (hi : ops[i]? = some oi) (hok : tailOkW .any ops n = true) (hin : i < n) (hf : Region.free .any ops s i = true)
    (hr : (Region.ready .any ops s).contains i = true) (hQ : ∀ c a w, Q (.panic c) (a.put oi.dst v) w → Q (.panic c) a w) (hy : YieldsIf P ops S oi v a) (hS : S w)
    (h : walkT P .any ops Q S n (tailW P ops Q n) f (s.setIfInBounds i true) (a.put oi.dst v) w) : walkT P .any ops Q S n (tailW P ops Q n) (f + 1) s a w := fun inv => by
  simp only [tailOkW, Bool.and_eq_true, decide_eq_true_eq] at hok
  obtain ⟨⟨⟨hsel, hn⟩, hs⟩, hc⟩ := hok
  have hr' : i ∈ Region.ready .any ops s := by simpa using hr
  exact headW_first hi (Region.noSelect_spec hsel) hQ hs hc hn hin (fun s' a' w' hL j hj => by simpa using List.all_eq_true.1 hL.1 j hj) f s a w inv (Region.free_spec hi hf) hr' hy hS (h (inv.set hr' hin))
/-- The head is done. -/
theorem walkW_done {s : Array Bool} {a : Act} {w : World} (hs : (Region.ready .any ops s).all (fun j => decide (n ≤ j)) = true) (h : (fun _ => True : World → Prop) w → wpAnyH P .any ops Q (fun _ => True) (ops.size - n) s a w) : walkT P .any ops Q S n (tailW P ops Q n) 0 s a w := fun _ => ⟨hs, h trivial⟩
end

/-- The beginning. -/
theorem wp_region_tailW {P : Program} {S : World → Prop} {id : Nat} {Q : Exit → Act → World → Prop} {a : Act} {w : World} {l : List Oper} (n : Nat) (hm : P.follows .mixedOrders = true) (hok : tailOkW .any l.toArray n = true) (hS : S w.drew)
    (h : S w.drew → walkT P .any l.toArray Q S n (tailW P l.toArray Q n) n (Array.replicate l.toArray.size false) a w.drew) : (Code.region id l.toArray true).wp P Q a w := by
  have hn : n < l.length := by simp only [tailOkW, Bool.and_eq_true, decide_eq_true_eq] at hok; simpa using hok.1.1.2
  have inv0 : HeadInv .any l.toArray n (Array.replicate l.toArray.size false) :=
    ⟨by simp, fun j oj _ hl => (by rw [getD_replicate_false] at hl; cases hl), fun t _ ht => getD_in (by simpa using ht) (getD_replicate_false _ _)⟩
  refine wp_region_any hm ?_
  have H2 := any_of_headH (Q := Q) (g := l.toArray.size - n) (fun s a' w' hL => wpAny_of_held _ _ _ _ hL.2) _ _ _ _ (h hS inv0)
  rw [show n + (l.toArray.size - n) = l.toArray.size by simp; omega] at H2
  exact H2
end Go.Proofs.YtpiimlmfcdjbbaaGreatDoor

/- Contracts: books. -/
namespace Go.Proofs.YtpiimlmfcdjbbaaGreatDoor
open Go.RowKit

theorem before_parts (r q : Rec) : beforeB r q = (Op.bytesLess r.name q.name || ((r.name == q.name) && decide (r.sys < q.sys))) := rfl
set_option maxHeartbeats 1000000 in
theorem l31Before_any (r : Rec) (n : List UInt8) (s : Int) (w : World) :
    Calls Tryz.prog 51 #[rcV r, .string (ms n), .int .i64 s] w fun e w' => e = .returned (.bool (Op.bytesLess r.name n || ((r.name == n) && decide (r.sys < s)))) ∧ Below w.heap.size w w' := by
  have hB := bal (bb w) (.cells #[.string (ms r.name), .int .i64 r.sys, .int .i64 r.size, .int .i64 r.extra] 30)
  cases h1 : Op.bytesLess r.name n
  · cases h2 : (r.name == n)
    · go_enter Tryz.func51, Tryz.ntmps51
      go_wp2_with fail
      go_ret
      exact ⟨rfl, hB⟩
    · go_enter Tryz.func51, Tryz.ntmps51
      go_wp2_with fail
      go_ret
      exact ⟨rfl, hB⟩
  · go_enter Tryz.func51, Tryz.ntmps51
    go_wp2_with fail
    go_ret
    exact ⟨rfl, hB⟩

/-- The first number that is not 0. -/
def orN (x y : Int) : Int := if x = 0 then y else x
theorem cmp_bytes : ∀ (a b : List UInt8), (Lib.compareBytes a b = -1 ↔ Op.bytesLess a b = true) ∧ (Lib.compareBytes a b = 0 ↔ a = b) ∧ (Lib.compareBytes a b = -1 ∨ Lib.compareBytes a b = 0 ∨ Lib.compareBytes a b = 1)
  | [], [] => by simp [Lib.compareBytes, Op.bytesLess]
  | [], _ :: _ => by simp [Lib.compareBytes, Op.bytesLess]
  | _ :: _, [] => by simp [Lib.compareBytes, Op.bytesLess]
  | x :: a, y :: b => by
    obtain ⟨h1, h2, h3⟩ := cmp_bytes a b
    simp only [Lib.compareBytes, Op.bytesLess, Bool.or_eq_true, decide_eq_true_eq, Bool.and_eq_true, beq_iff_eq, List.cons.injEq]
    by_cases e : x < y
    · simp only [e, if_true, true_or]
      have hne : ¬ x = y := fun e2 => by subst e2; rw [UInt8.lt_iff_toNat_lt] at e; omega
      simp [hne]
    · by_cases e2 : y < x
      · have hne : ¬ x = y := fun e3 => by subst e3; exact e e2
        simp [e, e2, hne]
      · have hxy : x = y := by
          rw [UInt8.lt_iff_toNat_lt] at e e2
          exact UInt8.toNat_inj.1 (by omega)
        subst hxy
        simp only [e, if_false, false_or, true_and]
        exact ⟨h1, h2, h3⟩
def cmpR (a b : Rec) : Int := orN (Lib.compareBytes a.name b.name) (Lib.compareInt a.sys b.sys)
theorem cmpR_neg (a b : Rec) : (0 ≤ cmpR a b) ↔ beforeB a b = false := by
  obtain ⟨h1, h2, h3⟩ := cmp_bytes a.name b.name
  unfold cmpR orN
  rw [before_parts]
  rcases h3 with h | h | h
  · rw [if_neg (by omega), h]
    have := h1.1 h
    simp [this]
  · rw [if_pos h]
    have e := h2.1 h
    rw [e, less_irrefl]
    unfold Lib.compareInt
    by_cases hs : a.sys < b.sys
    · simp [hs]
    · simp only [hs, if_false, beq_self_eq_true, Bool.true_and, Bool.false_or, decide_false, iff_true]
      split <;> decide
  · rw [if_neg (by omega), h]
    have n1 : Op.bytesLess a.name b.name = false := by
      cases hb : Op.bytesLess a.name b.name
      · rfl
      · have := h1.2 hb; omega
    have n2 : (a.name == b.name) = false := by
      rw [beq_eq_false_iff_ne]
      intro e
      have := h2.2 e; omega
    simp [n1, n2]

set_option maxHeartbeats 1000000 in
theorem cmpOr_any (b : Nat) (x y : Int) (w : World) (k0 : w.cell? ⟨b, 0, none⟩ = some (.int .i64 x)) (k1 : w.cell? ⟨b, 1, none⟩ = some (.int .i64 y)) :
    Calls Tryz.prog 52 #[.slice (some ⟨b, 0, none⟩) 2 2] w fun e w' => e = .returned (.int .i64 (orN x y)) ∧ w = w' := by
  by_cases hx : x = 0
  · have hR : Hid (orN x y = y) := by unfold Hid orN; rw [if_pos hx]
    subst hx
    by_cases hy : y = 0
    · subst hy
      go_enter Tryz.func52, Tryz.ntmps52
      go_wp2_with fail
      refine wp_loop_rounds 3 ?_
      rw [rounds_succ]
      go_wp2_with fail
      rw [rounds_succ]
      go_wp2_with fail
      rw [rounds_succ]
      go_wp2_with fail
      go_ret
      exact ⟨ret_int hR.out.symm, rfl⟩
    · have hy2 : (y != 0) = true := by simpa using hy
      go_enter Tryz.func52, Tryz.ntmps52
      go_wp2_with fail
      refine wp_loop_rounds 3 ?_
      rw [rounds_succ]
      go_wp2_with fail
      rw [rounds_succ]
      go_wp2_with fail
      go_ret
      exact ⟨ret_int hR.out.symm, rfl⟩
  · have hR : Hid (orN x y = x) := by unfold Hid orN; rw [if_neg hx]
    have hx2 : (x != 0) = true := by simpa using hx
    go_enter Tryz.func52, Tryz.ntmps52
    go_wp2_with fail
    refine wp_loop_rounds 3 ?_
    rw [rounds_succ]
    go_wp2_with fail
    go_ret
    exact ⟨ret_int hR.out.symm, rfl⟩

end Go.Proofs.YtpiimlmfcdjbbaaGreatDoor

/- Contracts: records compared. -/
namespace Go.Proofs.YtpiimlmfcdjbbaaGreatDoor
open Go.RowKit

theorem drew_size (w : World) : w.drew.heap.size = w.heap.size := rfl

set_option maxRecDepth 100000 in
set_option maxHeartbeats 4000000 in
theorem compareRecords_any (a b : Rec) (w : World) :
    Calls Tryz.prog 25 #[rcV a, rcV b] w fun e w' => e = .returned (.int .i64 (cmpR a b)) ∧ Below w.heap.size w w' := by
  have S0 := (((Sp.start w).alloc_box #[.string (ms a.name), .int .i64 a.sys, .int .i64 a.size, .int .i64 a.extra] 30).alloc_box #[.string (ms b.name), .int .i64 b.sys, .int .i64 b.size, .int .i64 b.extra] 30).drew
  simp only [World.size_alloc] at S0
  have c0 := S0.cell (i := 1) rfl (o := 0) rfl
  have c1 := S0.cell (i := 1) rfl (o := 1) rfl
  have d0 := S0.cell (i := 0) rfl (o := 0) rfl
  have d1 := S0.cell (i := 0) rfl (o := 1) rfl
  have hsc : ∀ w', Calls Tryz.prog 53 #[.string (ms a.name), .string (ms b.name)] w' fun e w'' => e = .returned (.int .i64 (Lib.compareBytes a.name b.name)) ∧ w'' = w' := fun w' => Tryz.strings_Compare (ms a.name) (ms b.name) w'
  obtain ⟨x, hx⟩ : ∃ x, Lib.compareBytes a.name b.name = x := ⟨_, rfl⟩
  obtain ⟨y, hy⟩ : ∃ y, Lib.compareInt a.sys b.sys = y := ⟨_, rfl⟩
  have hR : Hid (orN x y = cmpR a b) := by unfold Hid cmpR; rw [hx, hy]
  have hcc : ∀ w', Calls Tryz.prog 54 #[.int .i64 a.sys, .int .i64 b.sys] w' fun e w'' => e = .returned (.int .i64 y) ∧ w'' = w' := fun w' => by
    have := Tryz.cmp_Compare_int a.sys b.sys w'
    rw [hy] at this
    exact this
  rw [hx] at hsc
  replace hsc := Lib.hid hsc
  replace hcc := Lib.hid hcc
  replace S0 := Lib.hid S0
  clear hx hy
  go_enter Tryz.func25, Tryz.ntmps25
  go_wp2_with fail
  refine wp_region_held_lit (S := (fun w' => w'.cell? ⟨w.heap.size, 0, none⟩ = some (.string (ms a.name)) ∧ w'.cell? ⟨w.heap.size, 1, none⟩ = some (.int .i64 a.sys) ∧ w'.cell? ⟨w.heap.size + 1, 0, none⟩ = some (.string (ms b.name)) ∧ w'.cell? ⟨w.heap.size + 1, 1, none⟩ = some (.int .i64 b.sys))) 13 [false, false, false, false, false, false, false, false, false, false, false, false, false] (by kernel_rfl) (by kernel_rfl) (by kernel_rfl) ?_ ?_
  · exact ⟨c0, c1, d0, d1⟩
  intro hSc
  (refine wpAnyH_take (i := 0) (v := ?_) rfl (by kernel_rfl) (by kernel_rfl) (by kernel_rfl) (fun _ _ _ h => h) (Or.inl ⟨by rfl, ?_⟩) (by assumption) ?_; rotate_left; (focus (intro w hSw; (try dsimp only at hSw); go_simp; (try with_reducible rfl); done)); (try simp only [put_rules]))
  (refine wpAnyH_take (i := 1) (v := ?_) rfl (by kernel_rfl) (by kernel_rfl) (by kernel_rfl) (fun _ _ _ h => h) (Or.inl ⟨by rfl, ?_⟩) (by assumption) ?_; rotate_left; (focus (intro w hSw; (try dsimp only at hSw); go_simp; (try with_reducible rfl); done)); (try simp only [put_rules]))
  (refine wpAnyH_take (i := 2) (v := ?_) rfl (by kernel_rfl) (by kernel_rfl) (by kernel_rfl) (fun _ _ _ h => h) (Or.inl ⟨by rfl, ?_⟩) (by assumption) ?_; rotate_left; (focus (intro w hSw; (try dsimp only at hSw); go_simp; (try with_reducible rfl); done)); (try simp only [put_rules]))
  (refine wpAnyH_take (i := 3) (v := ?_) rfl (by kernel_rfl) (by kernel_rfl) (by kernel_rfl) (fun _ _ _ h => h) (Or.inl ⟨by rfl, ?_⟩) (by assumption) ?_; rotate_left; (focus (intro w hSw; (try dsimp only at hSw); go_simp; (try with_reducible rfl); done)); (try simp only [put_rules]))
  (refine wpAnyH_take (i := 5) (v := ?_) rfl (by kernel_rfl) (by kernel_rfl) (by kernel_rfl) (fun _ _ _ h => h) (Or.inl ⟨by rfl, ?_⟩) (by assumption) ?_; rotate_left; (focus (intro w hSw; (try dsimp only at hSw); go_simp; (try with_reducible rfl); done)); (try simp only [put_rules]))
  (refine wpAnyH_take (i := 6) (v := ?_) rfl (by kernel_rfl) (by kernel_rfl) (by kernel_rfl) (fun _ _ _ h => h) (Or.inl ⟨by rfl, ?_⟩) (by assumption) ?_; rotate_left; (focus (intro w hSw; (try dsimp only at hSw); go_simp; (try with_reducible rfl); done)); (try simp only [put_rules]))
  (refine wpAnyH_take (i := 7) (v := ?_) rfl (by kernel_rfl) (by kernel_rfl) (by kernel_rfl) (fun _ _ _ h => h) (Or.inl ⟨by rfl, ?_⟩) (by assumption) ?_; rotate_left; (focus (intro w hSw; (try dsimp only at hSw); go_simp; (try with_reducible rfl); done)); (try simp only [put_rules]))
  (refine wpAnyH_take (i := 8) (v := ?_) rfl (by kernel_rfl) (by kernel_rfl) (by kernel_rfl) (fun _ _ _ h => h) (Or.inl ⟨by rfl, ?_⟩) (by assumption) ?_; rotate_left; (focus (intro w hSw; (try dsimp only at hSw); go_simp; (try with_reducible rfl); done)); (try simp only [put_rules]))
  (refine wpAnyH_ready (rs := [4]) (by kernel_rfl) (by simp) ?_; refine AllReadyH.cons rfl (fun K hK => ?_) AllReadyH.nil)
  go_simp
  go_at_call 53
  refine (hsc.out _).mono ?_
  rintro e w1 ⟨rfl, rfl⟩
  go_wp2_with fail
  refine hK.out _ _ ⟨c0, c1, d0, d1⟩ (fun hSd => ?_)
  clear hK hSd
  (try simp only [put_rules])
  (refine wpAnyH_ready (rs := [9]) (by kernel_rfl) (by simp) ?_; refine AllReadyH.cons rfl (fun K hK => ?_) AllReadyH.nil)
  go_simp
  go_at_call 54
  refine (hcc.out _).mono ?_
  rintro e w1 ⟨rfl, rfl⟩
  go_wp2_with fail
  refine hK.out _ _ ⟨c0, c1, d0, d1⟩ (fun hSd => ?_)
  clear hK hSd
  (try simp only [put_rules])
  (refine wpAnyH_ready (rs := [10]) (by kernel_rfl) (by simp) ?_; refine AllReadyH.cons rfl (fun K hK => ?_) AllReadyH.nil)
  go_simp
  have S1 := S0.out.alloc_box #[.int .i64 x, .int .i64 y] 3
  simp only [drew_size, World.size_alloc] at S1
  have k0 := S1.cell (i := 0) rfl (o := 0) rfl
  have k1 := S1.cell (i := 0) rfl (o := 1) rfl
  have e0 := S1.cell (i := 2) rfl (o := 0) rfl
  have e1 := S1.cell (i := 2) rfl (o := 1) rfl
  have e2 := S1.cell (i := 1) rfl (o := 0) rfl
  have e3 := S1.cell (i := 1) rfl (o := 1) rfl
  have hB := S1.below
  clear S1
  refine hK.out _ _ ⟨e0, e1, e2, e3⟩ (fun hSd => ?_)
  clear hK hSd
  (try simp only [put_rules])
  (refine wpAnyH_ready (rs := [11]) (by kernel_rfl) (by simp) ?_; refine AllReadyH.cons rfl (fun K hK => ?_) AllReadyH.nil)
  go_simp
  go_at_call 52
  refine (cmpOr_any _ x y _ k0 k1).mono ?_
  rintro e w2 ⟨rfl, rfl⟩
  go_wp2_with fail
  refine hK.out _ _ ⟨e0, e1, e2, e3⟩ (fun hSd => ?_)
  clear hK
  (try simp only [put_rules])
  (refine wpAnyH_take (i := 12) (v := ?_) rfl (by kernel_rfl) (by kernel_rfl) (by kernel_rfl) (fun _ _ _ h => h) (Or.inl ⟨by rfl, ?_⟩) (by assumption) ?_; rotate_left; (focus (intro w hSw; (try dsimp only at hSw); go_simp; (try with_reducible rfl); done)); (try simp only [put_rules]))
  (refine wpAnyH_done (by kernel_rfl) ?_ _)
  go_wp2_with fail
  go_ret
  exact ⟨ret_int hR.out, hB⟩
end Go.Proofs.YtpiimlmfcdjbbaaGreatDoor
