/- Memory in parts that do not meet: what a call has made. No program in sight. -/
import Derived.Test.YtcdgpekefiplnaaMemA
import Derived.Maps.AppendAt
namespace Go.Proofs.Ytcdgpekefiplnaa
open Go.RowKit

/-- A part of the memory, with the blocks that it reaches. -/
structure Asn where
  p : World → List Nat → Prop
  lt : ∀ {w F}, p w F → ∀ b ∈ F, b < w.heap.size
  keep : ∀ {w w' F}, p w F → (∀ b ∈ F, w'.heap[b]? = w.heap[b]?) → p w' F

/-- All the parts, no two of which meet. -/
def sep : List Asn → World → List Nat → Prop
  | [], _, F => F = []
  | q :: ps, w, F => ∃ F1 F2, F = F1 ++ F2 ∧ (∀ b ∈ F1, b ∉ F2) ∧ q.p w F1 ∧ sep ps w F2

theorem sep_lt {w : World} : ∀ {ps : List Asn} {F : List Nat}, sep ps w F → ∀ b ∈ F, b < w.heap.size
  | [], _, h => by subst h; simp
  | q :: ps, _, h => by
    obtain ⟨F1, F2, rfl, _, h1, h2⟩ := h
    intro b hb
    rcases List.mem_append.1 hb with hb | hb
    · exact q.lt h1 b hb
    · exact sep_lt h2 b hb
theorem sep_keep {w w' : World} : ∀ {ps : List Asn} {F : List Nat}, sep ps w F → (∀ b ∈ F, w'.heap[b]? = w.heap[b]?) → sep ps w' F
  | [], _, h, _ => h
  | q :: ps, _, h, hk => by
    obtain ⟨F1, F2, rfl, hd, h1, h2⟩ := h
    exact ⟨F1, F2, rfl, hd, q.keep h1 fun b hb => hk b (List.mem_append.2 (.inl hb)), sep_keep h2 fun b hb => hk b (List.mem_append.2 (.inr hb))⟩
theorem sep_upd {w : World} : ∀ {ps : List Asn} {F : List Nat} {i : Nat} {q : Asn}, sep ps w F → ps[i]? = some q →
    ∃ Fi, q.p w Fi ∧ (∀ b ∈ Fi, b ∈ F) ∧ ∀ w' q' Fi', Chg Fi w w' → q'.p w' Fi' → (∀ b ∈ Fi', b ∈ Fi ∨ w.heap.size ≤ b) → ∃ F', sep (ps.set i q') w' F' ∧ ∀ b ∈ F', b ∈ F ∨ w.heap.size ≤ b
  | [], _, _, _, _, h => by simp at h
  | q :: ps, _, 0, q0, h, hi => by
    obtain ⟨F1, F2, rfl, hd, h1, h2⟩ := h
    simp at hi; subst hi
    refine ⟨F1, h1, fun b hb => List.mem_append.2 (.inl hb), fun w' q' Fi' hc hq hF => ⟨Fi' ++ F2, ⟨Fi', F2, rfl, fun b hb hb2 => ?_, hq, sep_keep h2 fun b hb => hc.block b (sep_lt h2 b hb) fun hb1 => hd b hb1 hb⟩, fun b hb => ?_⟩⟩
    · rcases hF b hb with h | h
      · exact hd b h hb2
      · have := sep_lt h2 b hb2; omega
    · rcases List.mem_append.1 hb with hb | hb
      · exact (hF b hb).imp (fun h => List.mem_append.2 (.inl h)) id
      · exact .inl (List.mem_append.2 (.inr hb))
  | q :: ps, _, i + 1, q0, h, hi => by
    obtain ⟨F1, F2, rfl, hd, h1, h2⟩ := h
    obtain ⟨Fi, hp, hsub, hall⟩ := sep_upd (i := i) (q := q0) h2 (by simpa using hi)
    refine ⟨Fi, hp, fun b hb => List.mem_append.2 (.inr (hsub b hb)), fun w' q' Fi' hc hq hF => ?_⟩
    obtain ⟨F', hs, hF'⟩ := hall w' q' Fi' hc hq hF
    refine ⟨F1 ++ F', ⟨F1, F', rfl, fun b hb hb2 => ?_, q.keep h1 fun b hb => hc.block b (q.lt h1 b hb) fun hbi => hd b hb (hsub b hbi), hs⟩, fun b hb => ?_⟩
    · rcases hF' b hb2 with h | h
      · exact hd b hb h
      · have := q.lt h1 b hb; omega
    · rcases List.mem_append.1 hb with hb | hb
      · exact .inl (List.mem_append.2 (.inl hb))
      · exact (hF' b hb).imp (fun h => List.mem_append.2 (.inr h)) id

/-- Since w0 nothing old has turned; of what is new these are the parts. -/
def Sp (w0 w : World) (ps : List Asn) : Prop := Below w0.heap.size w0 w ∧ ∃ F, sep ps w F ∧ ∀ b ∈ F, w0.heap.size ≤ b

section
variable {w0 w w' : World} {ps : List Asn} {i : Nat} {q : Asn}
theorem Sp.start (w : World) : Sp w w [] := ⟨bb _, [], rfl, by simp⟩
theorem Sp.of_below (h : Below w0.heap.size w0 w) : Sp w0 w [] := ⟨h, [], rfl, by simp⟩
theorem Sp.below (h : Sp w0 w ps) : Below w0.heap.size w0 w := h.1
theorem Sp.grow (h : Sp w0 w ps) (hb : Below w.heap.size w w') : Sp w0 w' ps := by
  obtain ⟨h1, F, h2, h3⟩ := h
  exact ⟨btr h1 hb, F, sep_keep h2 fun b hm => hb.block b (sep_lt h2 b hm), h3⟩
theorem Sp.drew (h : Sp w0 w ps) : Sp w0 w.drew ps := h.grow (bdr (bb _))
theorem Sp.alloc (h : Sp w0 w ps) (o : Obj) : Sp w0 (w.alloc o) ps := h.grow (bal (bb _) o)
theorem Sp.upd (h : Sp w0 w ps) (hi : ps[i]? = some q) : ∃ Fi, q.p w Fi ∧ (∀ b ∈ Fi, w0.heap.size ≤ b) ∧
    ∀ w' q' Fi', Chg Fi w w' → q'.p w' Fi' → (∀ b ∈ Fi', b ∈ Fi ∨ w.heap.size ≤ b) → Sp w0 w' (ps.set i q') := by
  obtain ⟨h1, F, h2, h3⟩ := h
  obtain ⟨Fi, hp, hsub, hall⟩ := sep_upd h2 hi
  refine ⟨Fi, hp, fun b hb => h3 b (hsub b hb), fun w' q' Fi' hc hq hF => ?_⟩
  obtain ⟨F', hs, hF'⟩ := hall w' q' Fi' hc hq hF
  exact ⟨h1.trans (hc.below h1.size fun b hb => h3 b (hsub b hb)), F', hs, fun b hb => (hF' b hb).elim (h3 b) (Nat.le_trans h1.size)⟩
theorem Sp.get (h : Sp w0 w ps) (hi : ps[i]? = some q) : ∃ Fi, q.p w Fi ∧ (∀ b ∈ Fi, w0.heap.size ≤ b) := by
  obtain ⟨Fi, h1, h2, _⟩ := h.upd hi
  exact ⟨Fi, h1, h2⟩
theorem Sp.new {F : List Nat} (h : Sp w0 w ps) (hb : Below w.heap.size w w') (hq : q.p w' F) (hF : ∀ b ∈ F, w.heap.size ≤ b) : Sp w0 w' (q :: ps) := by
  obtain ⟨h1, G, h2, h3⟩ := h
  have h4 := sep_keep h2 fun b hm => hb.block b (sep_lt h2 b hm)
  refine ⟨btr h1 hb, F ++ G, ⟨F, G, rfl, fun b hb1 hb2 => ?_, hq, h4⟩, fun b hm => ?_⟩
  · have := hF b hb1; have := sep_lt h2 b hb2; omega
  · rcases List.mem_append.1 hm with hm | hm
    · exact Nat.le_trans h1.size (hF b hm)
    · exact h3 b hm
theorem Sp.tail (h : Sp w0 w (q :: ps)) : Sp w0 w ps := by
  obtain ⟨h1, F, ⟨F1, F2, rfl, _, _, h2⟩, h3⟩ := h
  exact ⟨h1, F2, h2, fun b hb => h3 b (List.mem_append.2 (.inr hb))⟩
theorem Sp.head (h : Sp w0 w (q :: ps)) : ∃ F, q.p w F ∧ ∀ b ∈ F, w0.heap.size ≤ b := by
  obtain ⟨h1, F, ⟨F1, F2, rfl, _, h2, _⟩, h3⟩ := h
  exact ⟨F1, h2, fun b hb => h3 b (List.mem_append.2 (.inl hb))⟩
theorem Sp.swap {q' : Asn} (h : Sp w0 w (q :: q' :: ps)) : Sp w0 w (q' :: q :: ps) := by
  obtain ⟨h1, F, ⟨F1, F2, rfl, hd, h2, F3, F4, rfl, hd', h4, h5⟩, h3⟩ := h
  refine ⟨h1, F3 ++ (F1 ++ F4), ⟨F3, F1 ++ F4, rfl, fun b hb hb2 => ?_, h4, F1, F4, rfl, fun b hb hb2 => hd b hb (List.mem_append.2 (.inr hb2)), h2, h5⟩, fun b hb => h3 b ?_⟩
  · rcases List.mem_append.1 hb2 with h | h
    · exact hd b h (List.mem_append.2 (.inl hb))
    · exact hd' b hb h
  · simp only [List.mem_append] at hb ⊢
    rcases hb with h | h | h
    · exact .inr (.inl h)
    · exact .inl h
    · exact .inr (.inr h)
end

/-- A block that is known whole. -/
def Box (b : Nat) (t : TypeId) (cs : Array Value) : Asn where
  p w F := F = [b] ∧ w.heap[b]? = some (.cells cs t (0, 0))
  lt := by
    rintro w F ⟨rfl, h⟩ b' hb
    obtain rfl : b' = b := by simpa using hb
    rcases Nat.lt_or_ge b' w.heap.size with h' | h'
    · exact h'
    · rw [Array.getElem?_eq_none h'] at h; cases h
  keep := by
    rintro w w' F ⟨rfl, h⟩ hk
    exact ⟨rfl, (hk b (by simp)).trans h⟩

section
variable {w0 w w' : World} {ps : List Asn} {i b o : Nat} {t : TypeId} {cs : Array Value}
theorem Sp.box (h : Sp w0 w ps) (hi : ps[i]? = some (Box b t cs)) : w0.heap.size ≤ b ∧ b < w.heap.size ∧ w.heap[b]? = some (.cells cs t (0, 0)) := by
  obtain ⟨F, hp, hF⟩ := h.get hi
  have hlt := (Box b t cs).lt hp b
  obtain ⟨rfl, hh⟩ := hp
  exact ⟨hF b (by simp), hlt (by simp), hh⟩
theorem Sp.cell (h : Sp w0 w ps) (hi : ps[i]? = some (Box b t cs)) {u : Value} (ho : cs[o]? = some u) : w.cell? ⟨b, o, none⟩ = some u := by
  simp [World.cell?, (h.box hi).2.2, ho]
theorem Sp.frozen (h : Sp w0 w ps) (hi : ps[i]? = some (Box b t cs)) (o : Nat) : w.frozen? ⟨b, o, none⟩ = false := by
  simp [World.frozen?, (h.box hi).2.2]
theorem Sp.store (h : Sp w0 w ps) (hi : ps[i]? = some (Box b t cs)) (o : Nat) (u : Value) : Sp w0 (w.setCell ⟨b, o, none⟩ u) (ps.set i (Box b t (cs.setIfInBounds o u))) := by
  obtain ⟨F, ⟨rfl, hh⟩, hF, hall⟩ := h.upd hi
  refine hall _ _ [b] ((Chg.refl _ _).set (by simp) _) ⟨rfl, ?_⟩ (fun b hb => .inl hb)
  simp [World.setCell, Array.getElem?_modify, hh]
theorem Sp.alloc_box (h : Sp w0 w ps) (cs : Array Value) (t : TypeId) : Sp w0 (w.alloc (.cells cs t)) (Box w.heap.size t cs :: ps) :=
  h.new (bal (bb _) _) (F := [w.heap.size]) ⟨rfl, heap_alloc_new w _⟩ (by simp)
end

theorem owns_keep {w w' : World} {B : Nat} {e : TypeId} {size : Nat} {v : Value} {n : Nat} {xs : List Value} (h : w.ownsRow B e size v n xs) (hk : ∀ g, v.ownBlock = some g → w'.heap[g]? = w.heap[g]?) : w'.ownsRow B e size v n xs := by
  obtain ⟨hl, h | ⟨g, cap, cur, rfl, hg, hh, r⟩⟩ := h
  · exact ⟨hl, .inl h⟩
  · exact ⟨hl, .inr ⟨g, cap, cur, rfl, hg, (hk g rfl).trans hh, r⟩⟩
theorem owns_lt {w : World} {B : Nat} {e : TypeId} {size : Nat} {v : Value} {n : Nat} {xs : List Value} (h : w.ownsRow B e size v n xs) {g : Nat} (hg : v.ownBlock = some g) : g < w.heap.size := by
  obtain ⟨hl, ⟨rfl, _⟩ | ⟨g', cap, cur, rfl, _, hh, r⟩⟩ := h
  · cases hg
  · obtain rfl : g' = g := by simpa [Value.ownBlock] using hg
    rcases Nat.lt_or_ge g' w.heap.size with h' | h'
    · exact h'
    · rw [Array.getElem?_eq_none h'] at hh; cases hh

/-- A row of the call's own. -/
def Own (e : TypeId) (size : Nat) (v : Value) (n : Nat) (xs : List Value) : Asn where
  p w F := F = v.ownBlock.toList ∧ w.ownsRow 0 e size v n xs
  lt := by
    rintro w F ⟨rfl, h⟩ b hb
    exact owns_lt h (by simpa using hb)
  keep := by
    rintro w w' F ⟨rfl, h⟩ hk
    exact ⟨rfl, owns_keep h fun g hg => hk g (by simp [hg])⟩

section
variable {w0 w w1 w' : World} {ps : List Asn} {i n n' size : Nat} {e : TypeId} {v v' : Value} {xs xs' : List Value}
theorem Sp.own (h : Sp w0 w ps) (hi : ps[i]? = some (Own e size v n xs)) : w.ownsRow 0 e size v n xs := by
  obtain ⟨F, hp, _⟩ := h.get hi
  exact hp.2
/-- Behind an append to an own row. -/
theorem Sp.own_push (h : Sp w0 w ps) (hi : ps[i]? = some (Own e size v n xs)) (hb : Below w.heap.size w w1) (ho : w'.ownsRow 0 e size v' n' xs') (hg : w1.grownBy w' v.ownBlock)
    (hat : v'.ownBlock = v.ownBlock ∨ v'.ownBlock = some w1.heap.size) : Sp w0 w' (ps.set i (Own e size v' n' xs')) := by
  obtain ⟨F, ⟨rfl, hh⟩, hF, hall⟩ := h.upd hi
  refine hall w' _ v'.ownBlock.toList ?_ ⟨rfl, ho⟩ fun b hm => ?_
  · exact ⟨hg.os.trans hb.os, hg.tape.trans hb.tape, hg.output.trans hb.output, Nat.le_trans hb.size hg.size, fun k hk hn =>
      (hg.block k (Nat.lt_of_lt_of_le hk hb.size) (fun e => hn (by simp [← e]))).trans (hb.block k hk)⟩
  · rcases hat with h1 | h1
    · exact .inl (by rw [h1] at hm; exact hm)
    · rw [h1] at hm
      obtain rfl : b = w1.heap.size := by simpa using hm
      exact .inr hb.size
/-- A new own row. -/
theorem Sp.own_new (h : Sp w0 w ps) (hb : Below w.heap.size w w') (ho : w'.ownsRow 0 e size v n xs) (hv : ∀ g, v.ownBlock = some g → w.heap.size ≤ g) : Sp w0 w' (Own e size v n xs :: ps) :=
  h.new hb (F := v.ownBlock.toList) ⟨rfl, ho⟩ fun b hm => hv b (by simpa using hm)
theorem Sp.own_nil (h : Sp w0 w ps) (e : TypeId) (size : Nat) : Sp w0 w (Own e size (.slice none 0 0) 0 [] :: ps) :=
  h.own_new (bb _) (World.ownsRow_nil _ _ _ _) (fun g hg => by cases hg)
theorem Sp.own_made (h : Sp w0 w ps) (e : TypeId) (size : Nat) : Sp w0 (w.alloc (.cells #[] e)) (Own e size (.slice (some ⟨w.heap.size, 0, none⟩) 0 0) 0 [] :: ps) :=
  h.own_new (bal (bb _) _) ⟨by simp, .inr ⟨w.heap.size, 0, #[], rfl, Nat.zero_le _, heap_alloc_new w _, Nat.le_refl _, by decide, by simp, by simp⟩⟩ (fun g hg => by
    have : w.heap.size = g := by simpa [Value.ownBlock] using hg
    omega)
end

/-- A row with all that it reaches, all of it the call's own. -/
def Row {α : Type} (T : Ty α) (v : Value) (xs : List α) : Asn where
  p w F := T.row true w v xs F ∧ F.Nodup
  lt h := Ty.row_lt h.1
  keep h hk := ⟨Ty.row_keep h.1 hk, h.2⟩

/-- An own row of own rows, as far as it has grown. -/
def Rows {α : Type} (T : Ty α) (e : TypeId) (v : Value) (cs : List Value) (xss : List (List α)) : Asn where
  p w F := ∃ G, F = v.ownBlock.toList ++ G ∧ F.Nodup ∧ (Ty.slice T).all true w cs xss G ∧ w.ownsRow 0 e 1 v xss.length cs
  lt := by
    rintro w F ⟨G, rfl, _, h1, h2⟩ b hb
    rcases List.mem_append.1 hb with hb | hb
    · exact owns_lt h2 (by simpa using hb)
    · exact Ty.all_lt h1 b hb
  keep := by
    rintro w w' F ⟨G, rfl, h0, h1, h2⟩ hk
    exact ⟨G, rfl, h0, Ty.all_keep h1 fun b hb => hk b (List.mem_append.2 (.inr hb)), owns_keep h2 fun g hg => hk g (by simp [hg])⟩

section
variable {α : Type} {T : Ty α} {w0 w w1 w' : World} {ps : List Asn} {i : Nat} {e : TypeId} {v v' u : Value} {cs : List Value} {xss : List (List α)} {ys : List α}
theorem Sp.row_new {xs : List α} {F : List Nat} (h : Sp w0 w ps) (hb : Below w.heap.size w w') (hr : T.row true w' v xs F) (hn : F.Nodup) (hF : ∀ b ∈ F, w.heap.size ≤ b) : Sp w0 w' (Row T v xs :: ps) := h.new hb ⟨hr, hn⟩ hF
theorem Sp.rows (h : Sp w0 w ps) (hi : ps[i]? = some (Rows T e v cs xss)) : w.ownsRow 0 e 1 v xss.length cs := by
  obtain ⟨F, ⟨G, _, _, _, h⟩, _⟩ := h.get hi
  exact h
theorem Sp.rows_nil (h : Sp w0 w ps) (T : Ty α) (e : TypeId) : Sp w0 w (Rows T e (.slice none 0 0) [] [] :: ps) :=
  h.new (F := []) (bb _) ⟨[], rfl, by simp, ⟨rfl, rfl⟩, World.ownsRow_nil _ _ _ _⟩ (by simp)
theorem Sp.rows_made (h : Sp w0 w ps) (T : Ty α) (e : TypeId) : Sp w0 (w.alloc (.cells #[] e)) (Rows T e (.slice (some ⟨w.heap.size, 0, none⟩) 0 0) [] [] :: ps) :=
  h.new (F := [w.heap.size]) (bal (bb _) _) ⟨[], rfl, by simp, ⟨rfl, rfl⟩, ⟨by simp, .inr ⟨w.heap.size, 0, #[], rfl, Nat.zero_le _, heap_alloc_new w _, Nat.le_refl _, by decide, by simp, by simp⟩⟩⟩ (by simp)
/-- A row goes into a row of rows. -/
theorem Sp.rows_push (h : Sp w0 w (Row T u ys :: Rows T e v cs xss :: ps)) (hb : Below w.heap.size w w1) (ho : w'.ownsRow 0 e 1 v' (xss.length + 1) (cs ++ [u])) (hg : w1.grownBy w' v.ownBlock)
    (hat : v'.ownBlock = v.ownBlock ∨ v'.ownBlock = some w1.heap.size) : Sp w0 w' (Rows T e v' (cs ++ [u]) (xss ++ [ys]) :: ps) := by
  obtain ⟨h1, F, ⟨F1, F2, rfl, hd, ⟨hr, hn⟩, ⟨F3, F4, rfl, hd', ⟨G, rfl, hn', hall, hown⟩, h5⟩⟩, h3⟩ := h
  have hr1 := Ty.row_keep hr fun b hm => hb.block b (Ty.row_lt hr b hm)
  have hall1 := Ty.all_keep hall fun b hm => hb.block b (Ty.all_lt hall b hm)
  have h51 := sep_keep h5 fun b hm => hb.block b (sep_lt h5 b hm)
  have hkeep : ∀ b, b < w.heap.size → (∀ g, v.ownBlock = some g → b ≠ g) → w'.heap[b]? = w1.heap[b]? := fun b hlt hne => hg.block b (Nat.lt_of_lt_of_le hlt hb.size) (fun e => hne b e.symm rfl)
  have hr2 := Ty.row_keep hr1 fun b hm => hkeep b (Ty.row_lt hr b hm) fun g hg' e => hd b hm (by simp [hg', e])
  have hnG : ∀ b ∈ G, ∀ g, v.ownBlock = some g → b ≠ g := fun b hm g hg' e => by
    rw [List.nodup_append] at hn'
    exact hn'.2.2 g (by simp [hg']) b hm e.symm
  have hall2 := Ty.all_keep hall1 fun b hm => hkeep b (Ty.all_lt hall b hm) (hnG b hm)
  have h52 := sep_keep h51 fun b hm => hkeep b (sep_lt h5 b hm) fun g hg' e => hd' b (by simp [hg', e]) hm
  have hlv : ∀ b ∈ v'.ownBlock.toList, b ∈ v.ownBlock.toList ∨ b = w1.heap.size := fun b hm => by
    rcases hat with h | h
    · left; rwa [h] at hm
    · right; rw [h] at hm; simpa using hm
  have hs := hb.size
  have hbel : Below w0.heap.size w0 w' := (btr h1 hb).trans ⟨hg.os, hg.tape, hg.output, hg.size, fun k hk => hg.block k (by have := h1.size; omega) (fun e => by have := h3 k (by simp [← e]); omega)⟩
  refine ⟨hbel, (v'.ownBlock.toList ++ (G ++ F1)) ++ F4, ⟨_, F4, rfl, ?_, ⟨G ++ F1, rfl, ?_, ?_, by simpa using ho⟩, h52⟩, ?_⟩
  · intro b hm hm4
    rcases List.mem_append.1 hm with hm | hm
    · rcases hlv b hm with h | h
      · exact hd' b (List.mem_append.2 (.inl h)) hm4
      · have := sep_lt h5 b hm4; omega
    · rcases List.mem_append.1 hm with hm | hm
      · exact hd' b (List.mem_append.2 (.inr hm)) hm4
      · exact hd b hm (List.mem_append.2 (.inr hm4))
  · refine List.nodup_append.2 ⟨by cases v'.ownBlock <;> simp, List.nodup_append.2 ⟨(List.nodup_append.1 hn').2.1, hn, fun x hx y hy e => hd y hy (by simp [← e, hx])⟩, fun x hx y hy e => ?_⟩
    subst e
    rcases hlv x hx with h | h
    · rcases List.mem_append.1 hy with hy | hy
      · exact (List.nodup_append.1 hn').2.2 x h x hy rfl
      · exact hd x hy (List.mem_append.2 (.inl (List.mem_append.2 (.inl h))))
    · rcases List.mem_append.1 hy with hy | hy
      · have := Ty.all_lt hall x hy; omega
      · have := Ty.row_lt hr x hy; omega
  · exact Ty.all_snoc hall2 ⟨u, rfl, hr2⟩
  · intro b hm
    rcases List.mem_append.1 hm with hm | hm
    · rcases List.mem_append.1 hm with hm | hm
      · rcases hlv b hm with h | h
        · exact h3 b (by simp at h ⊢; simp [h])
        · have := h1.size; omega
      · rcases List.mem_append.1 hm with hm | hm
        · exact h3 b (by simp [hm])
        · exact h3 b (by simp [hm])
    · exact h3 b (by simp [hm])
/-- The finished row of rows. -/
theorem Sp.rows_done (h : Sp w0 w ps) (hi : ps[i]? = some (Rows T e v cs xss)) : ∃ F, (Ty.slice T).row true w v xss F ∧ F.Nodup ∧ (∀ b ∈ F, w0.heap.size ≤ b) := by
  obtain ⟨F, ⟨G, rfl, hn, hall, hown⟩, hF⟩ := h.get hi
  obtain ⟨F', hr, hF', _⟩ := Ty.row_of_owns hown rfl (by decide) hall
  rcases hF' with rfl | ⟨g, _, _, ho, rfl⟩
  · exact ⟨[], hr, by simp, by simp⟩
  · refine ⟨g :: G, hr, ?_, ?_⟩
    · rw [ho] at hn; simpa using hn
    · rw [ho] at hF; simpa using hF
end

/-- append to an own row, as one step of a region that draws: with the place of the new row. -/
theorem step_append_at {P : Program} {ops : Array Oper} {o : Oper} {a : Act} {w : World} {K : Act → World → Prop} {Q : Exit → Act → World → Prop} {E : Prop} (hgd : o.guard = none) (s x : Operand) (t : TypeId)
    (ho : o.op = .call { callee := .builtin .append, args := #[s, x], argTypes := #[t, t] })
    (e : TypeId) (i : TypeInfo) (z : Value) (size bytes : Nat) (ht : P.underlying t = some (.slice e)) (hi : P.info? e = some i) (hz : i.zero = some z)
    (hsize : i.size = size) (hby : i.bytes = bytes) (hzs : z.cells.size = size) (hsz : 0 < size)
    (v : Value) (n : Nat) (xs : List Value) (hs : a.eval s = v) (hown : w.ownsRow 0 e size v n xs)
    (ad : Addr) (m c : Nat) (news : List Value) (hx : a.eval x = .slice (some ad) m c) (hl : news.length = m * size) (hnews : ∀ j u, news[j]? = some u → w.cell? (ad.add j) = some u) (h1 : ∀ u ∈ news, u.oneCell' = true)
    (h63 : n + m ≤ maxLen) (hbytes : (n + m) * bytes ≤ 140737488355328)
    (h : ∀ v' w', w'.ownsRow 0 e size v' (n + m) (xs ++ news) → w.grownBy w' v.ownBlock → (v'.ownBlock = v.ownBlock ∨ v'.ownBlock = some w.heap.size) → K (a.put o.dst v') w') :
    if Region.wanted o (yielded ops a.tmps) = true then Oper.wp P o a w K Q else E := by
  have hw : Region.wanted o (yielded ops a.tmps) = true := by simp [Region.wanted, hgd]
  rw [if_pos hw]
  obtain ⟨v', w', hr, h2, h3, _, h5⟩ := run_append_own_at (P := P) w 0 t o.type e i z size bytes ht hi hz hsize hby hzs hsz v n xs hown ad m c news hl hnews h1 h63 hbytes (Nat.zero_le _)
  unfold Oper.wp execOp
  simp only [ho, resolve, invoke, builtin, Sem.run_bind, Sem.run_pure, Result.andThen_ok, List.map_toArray, List.map_cons, List.map_nil, hs, hx, hr]
  exact h v' w' h2 h3 h5
theorem wpList_append_at {P : Program} {ops : Array Oper} {rest : List Oper} {o : Oper} {a : Act} {w : World} {Q : Exit → Act → World → Prop} (hgd : o.guard = none) (s x : Operand) (t : TypeId)
    (ho : o.op = .call { callee := .builtin .append, args := #[s, x], argTypes := #[t, t] })
    (e : TypeId) (i : TypeInfo) (z : Value) (size bytes : Nat) (ht : P.underlying t = some (.slice e)) (hi : P.info? e = some i) (hz : i.zero = some z)
    (hsize : i.size = size) (hby : i.bytes = bytes) (hzs : z.cells.size = size) (hsz : 0 < size)
    (v : Value) (n : Nat) (xs : List Value) (hs : a.eval s = v) (hown : w.ownsRow 0 e size v n xs)
    (ad : Addr) (m c : Nat) (news : List Value) (hx : a.eval x = .slice (some ad) m c) (hl : news.length = m * size) (hnews : ∀ j u, news[j]? = some u → w.cell? (ad.add j) = some u) (h1 : ∀ u ∈ news, u.oneCell' = true)
    (h63 : n + m ≤ maxLen) (hbytes : (n + m) * bytes ≤ 140737488355328)
    (h : ∀ v' w', w'.ownsRow 0 e size v' (n + m) (xs ++ news) → w.grownBy w' v.ownBlock → (v'.ownBlock = v.ownBlock ∨ v'.ownBlock = some w.heap.size) → wpList P ops Q rest (a.put o.dst v') w') :
    wpList P ops Q (o :: rest) a w :=
  wpList_append_own_at w hgd s x t ho 0 e i z size bytes ht hi hz hsize hby hzs hsz v n xs hs hown ad m c news hx hl hnews h1 h63 hbytes (Nat.zero_le _) fun v' w' h1 h2 _ h3 => h v' w' h1 h2 h3
theorem cell_alloc {w : World} {a : Addr} {u : Value} (h : w.cell? a = some u) (o : Obj) : (w.alloc o).cell? a = some u :=
  (World.cell?_alloc_lt _ _ _ (World.block_lt_of_cell? _ _ h)).trans h
theorem owns_form {w : World} {B : Nat} {e : TypeId} {size : Nat} {v : Value} {n : Nat} {xs : List Value} (h : w.ownsRow B e size v n xs) : ∃ a c, v = .slice a n c := by
  obtain ⟨_, ⟨rfl, rfl⟩ | ⟨g, cap, cur, rfl, _⟩⟩ := h
  · exact ⟨_, _, rfl⟩
  · exact ⟨_, _, rfl⟩
/-- One element that has just been laid in a block of its own. -/
theorem one_new {w : World} {x : Value} {t : TypeId} {b : Nat} (hb : b = w.heap.size) : ∀ j u, [x][j]? = some u → (w.alloc (.cells #[x] t)).cell? ((⟨b, 0, none⟩ : Addr).add j) = some u := by
  subst hb; exact cell_one_new w x t

section
variable {α : Type} {T : Ty α} {w0 w w' : World} {ps : List Asn} {i : Nat} {v : Value} {xs : List α}
theorem Sp.row_at (h : Sp w0 w ps) (hi : ps[i]? = some (Row T v xs)) : ∃ F, T.row false w v xs F := by
  obtain ⟨F, ⟨h1, _⟩, _⟩ := h.get hi
  exact ⟨F, Ty.row_down h1⟩
/-- A row is written. -/
theorem Sp.mark (h : Sp w0 w ps) (hi : ps[i]? = some (Row T v xs)) : ∃ F, T.row true w v xs F ∧ F.Nodup ∧ ∀ w' ys, T.row true w' v ys F → Chg F w w' → Sp w0 w' (ps.set i (Row T v ys)) := by
  obtain ⟨F, ⟨h1, h2⟩, _, hall⟩ := h.upd hi
  exact ⟨F, h1, h2, fun w' ys hr hc => hall w' (Row T v ys) F hc ⟨hr, h2⟩ fun b hb => .inl hb⟩
end
end Go.Proofs.Ytcdgpekefiplnaa
