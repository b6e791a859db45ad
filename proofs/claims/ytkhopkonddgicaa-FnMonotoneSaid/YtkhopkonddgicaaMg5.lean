/- Lemmas and contracts for a law, put together out of several texts: CoC MdR CoD GtP GtV GtJ GtK GtS GtF GtW GtT. -/
import Derived.Test.YtkhopkonddgicaaMg4
import Derived.Test.YtkhopkonddgicaaMg2
import Derived.Lib.SliceRun
import Derived.Lib.Hide
import Derived.Shelf.SlicesE.Kit
import Derived.Shelf.SlicesE.Delete
import Derived.Test.YtkhopkonddgicaaMg3
import Derived.Test.YtkhopkonddgicaaShelf
import Derived.Maps.OwnIn
import Derived.Maps.AppendAt
import Derived.Test.YtkhopkonddgicaaMg1
import Derived.Laws.StructEq
/- Cores without superfluous clauses: plain facts. -/
namespace Go.Proofs.Ytkhopkonddgicaa
open Go.RowKit

/-- Each index in turn is left out if the rest is still a core. -/
def coreGo (P : List Nat → Bool) : List Nat → List Nat → List Nat
  | kept, [] => kept
  | kept, i :: rest => if P (kept ++ rest) then coreGo P kept rest else coreGo P (kept ++ [i]) rest
theorem coreGo_yes {P : List Nat → Bool} {kept rest : List Nat} {i : Nat} (h : P (kept ++ rest) = true) : coreGo P kept (i :: rest) = coreGo P kept rest := by rw [coreGo, if_pos h]
theorem coreGo_no {P : List Nat → Bool} {kept rest : List Nat} {i : Nat} (h : P (kept ++ rest) = false) : coreGo P kept (i :: rest) = coreGo P (kept ++ [i]) rest := by rw [coreGo, if_neg (by rw [h]; decide)]
theorem skip_mid {kept rest : List Nat} {i : Nat} : (kept ++ i :: rest).eraseIdx kept.length = kept ++ rest := by
  rw [List.eraseIdx_append_of_length_le (Nat.le_refl _), Nat.sub_self]; rfl
/-- A list is ascending, within a range. -/
def AscN (m : Nat) (l : List Nat) : Prop := l.Pairwise (· < ·) ∧ ∀ i ∈ l, i < m
theorem AscN.sub {m : Nat} {l l' : List Nat} (h : AscN m l) (hs : l'.Sublist l) : AscN m l' := ⟨h.1.sublist hs, fun i hi => h.2 i (hs.subset hi)⟩
theorem coreGo_sub (P : List Nat → Bool) : ∀ (rest kept : List Nat), (coreGo P kept rest).Sublist (kept ++ rest)
  | [], kept => by rw [coreGo, List.append_nil]; exact List.Sublist.refl _
  | i :: rest, kept => by
    rw [coreGo]
    split
    · exact (coreGo_sub P rest kept).trans (List.Sublist.append_left (List.sublist_cons_self _ _) _)
    · have := coreGo_sub P rest (kept ++ [i])
      rwa [List.append_assoc] at this
theorem coreGo_kept (P : List Nat → Bool) : ∀ (rest kept : List Nat), ∃ t, coreGo P kept rest = kept ++ t ∧ t.Sublist rest
  | [], kept => ⟨[], by rw [coreGo, List.append_nil], List.Sublist.refl _⟩
  | i :: rest, kept => by
    rw [coreGo]
    split
    · obtain ⟨t, h1, h2⟩ := coreGo_kept P rest kept
      exact ⟨t, h1, h2.trans (List.sublist_cons_self _ _)⟩
    · obtain ⟨t, h1, h2⟩ := coreGo_kept P rest (kept ++ [i])
      exact ⟨i :: t, by rw [h1, List.append_assoc]; rfl, h2.cons_cons i⟩
/-- What is left is a core, if all was. -/
theorem coreGo_core {P : List Nat → Bool} : ∀ (rest kept : List Nat), P (kept ++ rest) = true → P (coreGo P kept rest) = true
  | [], kept, h => by rw [coreGo]; rwa [List.append_nil] at h
  | i :: rest, kept, h => by
    rw [coreGo]
    split
    · rename_i h2; exact coreGo_core rest kept h2
    · refine coreGo_core rest (kept ++ [i]) ?_
      rwa [List.append_assoc]
/-- None of what is left is superfluous. -/
theorem coreGo_min {P : List Nat → Bool} (hP : ∀ a b : List Nat, a.Sublist b → P a = true → P b = true) : ∀ (rest kept : List Nat), (∀ k, k < kept.length → ∀ t, t.Sublist rest → P (kept.eraseIdx k ++ t) = false) →
    ∀ k, k < (coreGo P kept rest).length → P ((coreGo P kept rest).eraseIdx k) = false
  | [], kept, h, k, hk => by
    rw [coreGo] at hk ⊢
    have := h k hk [] (List.Sublist.refl _)
    rwa [List.append_nil] at this
  | i :: rest, kept, h, k, hk => by
    rw [coreGo] at hk ⊢
    split
    · rename_i h2
      rw [if_pos h2] at hk
      exact coreGo_min hP rest kept (fun j hj t ht => h j hj t (ht.trans (List.sublist_cons_self _ _))) k hk
    · rename_i h2
      rw [if_neg h2] at hk
      refine coreGo_min hP rest (kept ++ [i]) (fun j hj t ht => ?_) k hk
      rw [List.length_append] at hj
      by_cases hjl : j < kept.length
      · rw [List.eraseIdx_append_of_lt_length hjl, List.append_assoc]
        exact h j hjl (i :: t) (ht.cons_cons i)
      · obtain rfl : j = kept.length := by simp at hj; omega
        rw [skip_mid (rest := []), List.append_nil]
        cases hb : P (kept ++ t)
        · rfl
        · exact absurd (hP _ _ (List.Sublist.append_left ht kept) hb) h2
theorem core_mono {n : Nat} {xss : List (List Int)} {a b : List Nat} (h : a.Sublist b) (ha : coreB n xss a = true) : coreB n xss b = true := by
  unfold coreB at *
  rw [Bool.not_eq_true', List.any_eq_false] at *
  intro m hm
  have h2 := ha m hm
  intro hb
  refine h2 ?_
  unfold modT pickC at *
  rw [List.all_eq_true] at *
  intro c hc
  obtain ⟨i, hi, rfl⟩ := List.mem_map.1 hc
  exact hb _ (List.mem_map.2 ⟨i, h.subset hi, rfl⟩)
theorem pick_range (xss : List (List Int)) : pickC xss (List.range xss.length) = xss := by
  unfold pickC
  apply List.ext_getElem
  · simp
  · intro i h1 h2
    simp [List.getD_eq_getElem?_getD, h2]
theorem core_all {n : Nat} {xss : List (List Int)} : coreB n xss (List.range xss.length) = !(List.range (2 ^ n)).any (modT xss) := by
  unfold coreB
  rw [pick_range]
theorem range_asc (m : Nat) : AscN m (List.range m) := ⟨List.pairwise_lt_range, fun _ hi => List.mem_range.1 hi⟩
end Go.Proofs.Ytkhopkonddgicaa

/- Contract: slices.DeleteFunc at an own row of numbers, with a function that may make memory. -/
namespace Go.Proofs.Ytkhopkonddgicaa
open Go.RowKit

theorem set_get {α : Type} {l : List α} {i : Nat} {q : α} (h : l[i]? = some q) : l.set i q = l := by
  apply List.ext_getElem?
  intro j
  rw [List.getElem?_set]
  split
  · rename_i e
    subst e
    have := (List.getElem?_eq_some_iff.1 h).1
    rw [if_pos this, h]
  · rfl
theorem set_at {α : Type} {l : List α} {i : Nat} {q : α} (h : l[i]? = some q) (p : α) : (l.set i p)[i]? = some p := by
  have := (List.getElem?_eq_some_iff.1 h).1
  rw [List.getElem?_set_self this]
theorem Sp.own_puts {w0 : World} {g cap n size : Nat} {e : TypeId} {i : Nat} : ∀ (us : List Value) (o : Nat) (w : World) (ps : List Asn) (xs : List Value), Sp w0 w ps → ps[i]? = some (Own e size (.slice (some ⟨g, 0, none⟩) n cap) n xs) → o + us.length ≤ n * size →
    ∃ xs', Sp w0 (w.setCells g o us) (ps.set i (Own e size (.slice (some ⟨g, 0, none⟩) n cap) n xs')) ∧ xs'.take o = xs.take o ∧ Chg [g] w (w.setCells g o us)
  | [], o, w, ps, xs, h, hi, _ => ⟨xs, by rw [set_get hi]; exact h, rfl, Chg.refl _ _⟩
  | u :: us, o, w, ps, xs, h, hi, hl => by
    have h1 := h.own_put hi u (o := o) (by simp at hl; omega)
    obtain ⟨xs', h2, h3, h4⟩ := Sp.own_puts us (o + 1) _ _ _ h1 (set_at hi _) (by simp at hl; omega)
    refine ⟨xs', by rw [World.setCells]; rwa [List.set_set] at h2, ?_, by rw [World.setCells]; exact ((Chg.refl [g] w).set (p := ⟨g, o, none⟩) (by simp) u).trans h4⟩
    have := congrArg (List.take o) h3
    rw [List.take_take, List.take_take, Nat.min_eq_left (by omega)] at this
    rw [this, List.take_set_of_le (Nat.le_refl _)]
theorem Sp.own_cut {w0 w : World} {g cap n m : Nat} {e : TypeId} {i : Nat} {ps : List Asn} {xs : List Value} (h : Sp w0 w ps) (hi : ps[i]? = some (Own e 1 (.slice (some ⟨g, 0, none⟩) n cap) n xs)) (hm : m ≤ n) : Sp w0 w (ps.set i (Own e 1 (.slice (some ⟨g, 0, none⟩) m cap) m (xs.take m))) := by
  obtain ⟨F, ⟨rfl, hl, hh⟩, hF, hall⟩ := h.upd hi
  refine hall _ _ [g] (Chg.refl _ _) ⟨rfl, by rw [List.length_take, hl]; omega, .inr ?_⟩ (fun b hb => .inl hb)
  rcases hh with ⟨h1, _⟩ | ⟨g', cap', cur, e1, h0, hg, hn, hmx, hc, ht⟩
  · cases h1
  · simp only [Value.slice.injEq, Option.some.injEq, Addr.mk.injEq] at e1
    obtain ⟨⟨rfl, _⟩, _, rfl⟩ := e1
    refine ⟨g, cap, cur, rfl, Nat.zero_le _, hg, by omega, hmx, hc, ?_⟩
    rw [← ht, List.take_take, Nat.mul_one, Nat.mul_one, Nat.min_eq_left hm]
/-- The state of DeleteFunc's loop: i kept elements stand ahead, from j on nothing has turned. -/
def DelInv (p : Int → Bool) (xs : List Int) (i j : Nat) (ys : List Value) : Prop :=
  i < j ∧ ys.length = xs.length ∧ ys.take i = ((xs.take j).filter fun x => !p x).map (.int .i64) ∧ i = ((xs.take j).filter fun x => !p x).length ∧ ∀ k, j ≤ k → ys[k]? = (xs.map (Value.int .i64))[k]?
theorem DelInv.start {p : Int → Bool} {xs : List Int} {k : Nat} (hk : k < xs.length) (h1 : p xs[k] = true) (h0 : (xs.take k).any p = false) : DelInv p xs k (k + 1) (xs.map (.int .i64)) := by
  have hf : ((xs.take (k + 1)).filter fun x => !p x) = xs.take k := by
    rw [List.take_succ_eq_append_getElem hk, List.filter_append, List.filter_eq_self.2]
    · simp [h1]
    · intro x hx
      have := List.any_eq_false.1 h0 x hx
      simpa using this
  exact ⟨by omega, by simp, by rw [hf, List.map_take], by rw [hf, List.length_take]; omega, fun _ _ => rfl⟩
theorem DelInv.keep {p : Int → Bool} {xs : List Int} {i j : Nat} {ys : List Value} (h : DelInv p xs i j ys) (hj : j < xs.length) (h1 : p xs[j] = false) : DelInv p xs (i + 1) (j + 1) (ys.set i (.int .i64 xs[j])) := by
  obtain ⟨a1, a2, a3, a4, a5⟩ := h
  have hf : ((xs.take (j + 1)).filter fun x => !p x) = ((xs.take j).filter fun x => !p x) ++ [xs[j]] := by
    rw [List.take_succ_eq_append_getElem hj, List.filter_append]
    simp [h1]
  refine ⟨by omega, by simp [a2], ?_, by rw [hf]; simp [← a4], fun k hk => ?_⟩
  · rw [hf, List.map_append, ← a3, List.take_succ_eq_append_getElem (by simp; omega), List.take_set_of_le (Nat.le_refl _)]
    simp
  · rw [List.getElem?_set_ne (by omega)]
    exact a5 k (by omega)
theorem DelInv.skip {p : Int → Bool} {xs : List Int} {i j : Nat} {ys : List Value} (h : DelInv p xs i j ys) (hj : j < xs.length) (h1 : p xs[j] = true) : DelInv p xs i (j + 1) ys := by
  obtain ⟨a1, a2, a3, a4, a5⟩ := h
  have hf : ((xs.take (j + 1)).filter fun x => !p x) = ((xs.take j).filter fun x => !p x) := by
    rw [List.take_succ_eq_append_getElem hj, List.filter_append]
    simp [h1]
  exact ⟨by omega, a2, by rw [hf]; exact a3, by rw [hf]; exact a4, fun k hk => a5 k (by omega)⟩

/- left out: the seat has no slices.DeleteFunc[[]int,int] -/
end Go.Proofs.Ytkhopkonddgicaa

/- Contracts: lists of indices in the program: all of them, one left out, the place of one. -/
namespace Go.Proofs.Ytkhopkonddgicaa
open Go.RowKit Go.Shelf

/- left out: the seat has no slices.Delete[[]int,int] -/

/- left out: the seat has no slices.Delete[[]int,int] -/

theorem putCells_take {α : Type} [Inhabited α] (enc : α → Value) (d : Array α) (c : Array Value) {m : Nat} (hm : m ≤ d.size) (hd : d.size ≤ c.size) : (Sort.putCells enc 0 d c).toList.take m = (d.toList.map enc).take m := by
  unfold Sort.putCells
  apply List.ext_getElem
  · simp; omega
  · intro i h1 h2
    have hi : i < m := by simp at h1; omega
    have hid : i < d.size := by omega
    simp [hid]
/-- A row that is laid anew and cut. -/
theorem Sp.own_putRow {α : Type} [Inhabited α] {w0 w : World} {g cap n m q i : Nat} {e : TypeId} {ps : List Asn} {xs : List Value} (enc : α → Value) (d : Array α) (h : Sp w0 w ps) (hi : ps[i]? = some (Own e 1 (.slice (some ⟨g, 0, none⟩) n cap) n xs)) (hd : d.size ≤ n) (hm : m ≤ d.size) (hn : 0 < n) :
    Sp w0 (Sort.putRow enc (Sort.ahead w q) g 0 d) (ps.set i (Own e 1 (.slice (some ⟨g, 0, none⟩) m cap) m ((d.toList.map enc).take m))) := by
  obtain ⟨F, ⟨rfl, hh⟩, hF, hall⟩ := h.upd hi
  obtain ⟨g', cap', cur, e1, h0, hg, hnc, hmx, hc, ht⟩ := own_block hh hn
  simp only [Value.slice.injEq, Option.some.injEq, Addr.mk.injEq] at e1
  obtain ⟨⟨rfl, _⟩, _, rfl⟩ := e1
  refine hall _ _ [g] ⟨rfl, rfl, rfl, by simp [Sort.putRow, Sort.mapBlock, Sort.ahead], fun k _ hk => ?_⟩ ⟨rfl, ?_, .inr ⟨g, cap, Sort.putCells enc 0 d cur, rfl, Nat.zero_le _, ?_, by omega, hmx, ?_, ?_⟩⟩ (fun b hb => .inl hb)
  · have hne : g ≠ k := fun e => hk (by simp [Value.ownBlock, e])
    simp only [Sort.putRow, Sort.mapBlock, Sort.ahead, Array.getElem?_modify]
    rw [if_neg hne]
  · rw [List.length_take, List.length_map, Array.length_toList]; omega
  · simp only [Sort.putRow, Sort.mapBlock, Sort.ahead, Array.getElem?_modify, if_true, hg, Option.map_some, Sort.onCells]
  · unfold Sort.putCells; simp [hc]
  · rw [Nat.mul_one]
    exact putCells_take enc d cur hm (by omega)

/- left out: the seat has no slices.Clone[[]int,int] -/

/- left out: the seat has no impl.without[int] -/

set_option maxRecDepth 100000 in
set_option maxHeartbeats 4000000 in
theorem indexI_any (A : Option Addr) (n cap p : Nat) (xs : List Int) (x : Int) (w : World) (hx : IntsAt w A xs) (hn : xs.length = n) (hl : n ≤ 1000000) (hp : xs[p]? = some x) (hno : ∀ j, j < p → xs[j]? ≠ some x) :
    Calls Try.prog 91 #[.slice A n cap, .int .i64 x] w fun e w' => e = .returned (.int .i64 p) ∧ w' = w := by
  have hpl : p < n := by rw [← hn]; exact (List.getElem?_eq_some_iff.1 hp).1
  have hI := Lib.hid hx
  have hnH := Lib.hid hn
  have hpH := Lib.hid hp
  have hnoH := Lib.hid hno
  clear hx hn hp hno
  go_enter Try.func91, Try.ntmps91
  go_wp2_with fail
  go_loopw [5, 8] (fun _ vi wr => ∃ k : Nat, k ≤ p ∧ vi = .int .i64 k ∧ wr = w) (fun _ vi _ => n - (intOf vi).toNat)
  case atStart => exact ⟨0, Nat.zero_le _, rfl, rfl⟩
  case round =>
    obtain ⟨k, hk, rfl, rfl⟩ := hrel
    have hkn : k < n := by omega
    have hkx : k < xs.length := by rw [hnH.out]; exact hkn
    obtain ⟨b, off, rfl, m0⟩ := hI.out.at_ k hkx
    by_cases hkp : k = p
    · subst hkp
      have hv : xs[k] = x := by have := hpH.out; rw [List.getElem?_eq_getElem hkx] at this; simpa using this
      rw [hv] at m0
      have d1 : (x == x) = true := by simp
      clear hv
      go_wp2_with fail
      go_ret
      exact ⟨rfl, rfl⟩
    · have hv : xs[k] ≠ x := fun e => hnoH.out k (by omega) (by rw [List.getElem?_eq_getElem hkx, e])
      generalize xs[k] = y at *
      have d1 : (x == y) = false := by simpa using fun e => hv e.symm
      have d2 : decide (x = y) = false := decide_eq_false fun e => hv e.symm
      clear hv
      go_wp2_with fail
      go_roundw
      case rel => exact ⟨k + 1, by omega, by go_num, by first | rfl | trivial⟩
      case measure => simp [intOf]; omega
end Go.Proofs.Ytkhopkonddgicaa

/- Contract: where a needed gate lies among the needed ones. -/
namespace Go.Proofs.Ytkhopkonddgicaa
open Go.RowKit

theorem natI_at {l : List Nat} {j : Nat} {x : Nat} : (natI l)[j]? = some (x : Int) ↔ l[j]? = some x := by
  unfold natI
  rw [List.getElem?_map]
  cases h : l[j]? with
  | none => simp
  | some y => simp only [Option.map_some, Option.some.injEq]; omega
theorem trimLook_any (b k cap : Nat) (A : Option Addr) (need : List Nat) (hk : k ∈ need) (hl : need.length ≤ 1000000) (w : World) (h0 : w.cell? ⟨b, 0, none⟩ = some (.slice A need.length cap)) (hx : IntsAt w A (natI need)) :
    Calls Try.prog 90 #[.int .i64 k, .pointer (some ⟨b, 0, none⟩)] w fun e w' => e = .returned (.int .i64 (need.idxOf k : Nat)) ∧ Below w.heap.size w w' := by
  have hi := List.idxOf_lt_length_of_mem hk
  have hcall := Lib.hid (indexI_any A need.length cap (need.idxOf k) (natI need) k w hx (natI_len need) hl (natI_at.2 (by rw [List.getElem?_eq_getElem hi, List.getElem_idxOf hi])) (fun j hj e => by
    have h2 := natI_at.1 e
    have hjl : j < need.length := by omega
    rw [List.getElem?_eq_getElem hjl] at h2
    have h3 := List.not_of_lt_findIdx (p := fun x => x == k) (xs := need) hj
    rw [Option.some.inj h2] at h3
    simp at h3))
  clear hx
  go_enter Try.func90, Try.ntmps90
  go_wp2_with fail
  refine hcall.out.mono ?_
  rintro e w1 ⟨rfl, rfl⟩
  go_wp2_with fail
  go_ret
  exact ⟨rfl, bb _⟩
end Go.Proofs.Ytkhopkonddgicaa

/- Contract: the needed gates. -/
namespace Go.Proofs.Ytkhopkonddgicaa
open Go.RowKit Go.Shelf

attribute [local go_sem] Oper.semAt_some

theorem keeps_below {W W' : World} (h : Below W.heap.size W W') : KeepsOthers W W' := ⟨h.size, fun k _ hk _ => (h.block k (Array.getElem?_eq_some_iff.1 hk).1).trans hk⟩
/-- A part has no block of this type. -/
def NotOf (t : TypeId) (q : Asn) : Prop := ∀ w F, q.p w F → ∀ b ∈ F, ∀ cs r, w.heap[b]? ≠ some (.cells cs t r)
theorem notOf_box {b : Nat} {t t' : TypeId} {cs : Array Value} (h : t' ≠ t) : NotOf t (Box b t' cs) := by
  rintro w F ⟨rfl, hh⟩ b' hb cs' r he
  obtain rfl : b' = b := by simpa using hb
  rw [hh] at he
  cases he
  exact h rfl
theorem notOf_own {e t : TypeId} {size n : Nat} {v : Value} {xs : List Value} (h : e ≠ t) : NotOf t (Own e size v n xs) := by
  rintro w F ⟨rfl, -, ⟨rfl, -⟩ | ⟨g, cap, cur, rfl, -, hh, -⟩⟩ b hb cs r he
  · simp [Value.ownBlock] at hb
  · obtain rfl : b = g := by simpa [Value.ownBlock] using hb
    rw [hh] at he
    cases he
    exact h rfl
theorem sep_notOf {t : TypeId} {w : World} : ∀ {ps : List Asn} {F : List Nat}, sep ps w F → (∀ q ∈ ps, NotOf t q) → ∀ b ∈ F, ∀ cs r, w.heap[b]? ≠ some (.cells cs t r)
  | [], _, h, _ => by subst h; simp
  | q :: ps, _, h, hq => by
    obtain ⟨F1, F2, rfl, _, h1, h2⟩ := h
    intro b hb
    rcases List.mem_append.1 hb with hb | hb
    · exact hq q (by simp) w F1 h1 b hb
    · exact sep_notOf h2 (fun x hx => hq x (by simp [hx])) b hb
/-- A block of another type is a part of its own. -/
theorem Sp.add_box {w0 W : World} {ps : List Asn} {Bx : Nat} {t : TypeId} {cs : Array Value} (h : Sp w0 W ps) (hq : ∀ q ∈ ps, NotOf t q) (hl : w0.heap.size ≤ Bx) (hb : W.heap[Bx]? = some (.cells cs t (0, 0))) : Sp w0 W (Box Bx t cs :: ps) := by
  obtain ⟨h1, F, h2, h3⟩ := h
  refine ⟨h1, [Bx] ++ F, ⟨[Bx], F, rfl, fun b hb1 hb2 => ?_, ⟨rfl, hb⟩, h2⟩, fun b hm => ?_⟩
  · obtain rfl : b = Bx := by simpa using hb1
    exact sep_notOf h2 hq b hb2 _ _ hb
  · rcases List.mem_append.1 hm with hm | hm
    · obtain rfl : b = Bx := by simpa using hm
      exact hl
    · exact h3 b hm
theorem below_both {n : Nat} {w A B : World} (h : Below n w A) (k : Below n w B) (hs : A.heap.size ≤ B.heap.size) : Below n A B :=
  ⟨k.os.trans h.os.symm, k.tape.trans h.tape.symm, k.output.trans h.output.symm, hs, fun b hb => (k.block b hb).trans (h.block b hb).symm⟩
theorem own_cells {w : World} {B : Nat} {e : TypeId} {size : Nat} {v : Value} {n : Nat} {xs : List Value} (h : w.ownsRow B e size v n xs) : ∀ (j : Nat) (o : Obj), v.ownBlock = some j → (w.heap[j]? = some o) → o.isCells = true := by
  intro j o hj ho
  obtain ⟨-, ⟨rfl, -⟩ | ⟨g, cap, cur, rfl, -, hh, -⟩⟩ := h
  · simp [Value.ownBlock] at hj
  · obtain rfl : g = j := by simpa [Value.ownBlock] using hj
    rw [hh] at ho
    cases ho
    rfl
theorem bools_ne {w0 W : World} {ps : List Asn} {i g n b o : Nat} {t : TypeId} {f : Nat → Bool} {z : Int} (h : Sp w0 W ps) (hi : ps[i]? = some (Box g t (boolsA n f))) (hc : W.cell? ⟨b, o, none⟩ = some (.int .i64 z)) : b ≠ g := by
  rintro rfl
  simp only [World.cell?, (h.box hi).2.2] at hc
  have := hc
  simp only [boolsA, List.getElem?_toArray, List.getElem?_map] at this
  cases hr : (List.range n)[o]? with
  | none => rw [hr] at this; simp at this
  | some m => rw [hr] at this; simp at this
theorem ints_ne {w0 W : World} {ps : List Asn} {i g n : Nat} {t : TypeId} {f : Nat → Bool} {A : Option Addr} {cs : List Int} (h : Sp w0 W ps) (hi : ps[i]? = some (Box g t (boolsA n f))) (hx : IntsAt W A cs) (hne : cs ≠ []) : ∀ a, A = some a → a.block ≠ g := by
  intro a ha
  obtain ⟨b, off, e, hc⟩ := hx.at_ 0 (List.length_pos_iff.2 hne)
  rw [ha] at e
  cases e
  exact bools_ne h hi hc

theorem keeps_putRow {w : World} {g q : Nat} {d : Array Int} {cs : Array Value} {t : TypeId} {r : Nat × Nat} (h : w.heap[g]? = some (.cells cs t r)) : KeepsOthers w (Sort.putRow (Value.int .i64) (Sort.ahead w q) g 0 d) := by
  refine ⟨by simp [Sort.putRow, Sort.mapBlock, Sort.ahead], fun k o hk ho => ?_⟩
  have hne : g ≠ k := by
    rintro rfl
    rw [h] at hk
    cases hk
    cases ho
  simp only [Sort.putRow, Sort.mapBlock, Sort.ahead, Array.getElem?_modify]
  rw [if_neg hne]
  exact hk
theorem reverseI_any (xs : List Int) (B : Option Addr) (cc : Nat) (w0 w : World) (ps : List Asn) (S : Sp w0 w (Own 3 1 (.slice B xs.length cc) xs.length (xs.map (.int .i64)) :: ps)) (hl : xs.length ≤ 1000000) (h0 : 0 < xs.length) :
    Calls Try.prog 97 #[.slice B xs.length cc] w fun e w' => e = .returned (.tuple #[]) ∧ Sp w0 w' (Own 3 1 (.slice B xs.length cc) xs.length (xs.reverse.map (.int .i64)) :: ps) ∧ KeepsOthers w w' := by
  obtain ⟨g, cap, cur, e1, h0', hg, hnc, hmx, hc, ht⟩ := own_block (S.own (i := 0) rfl) h0
  simp only [Value.slice.injEq] at e1
  obtain ⟨rfl, -, rfl⟩ := e1
  have hH : Sort.Holds (Value.int .i64) w g 0 xs.toArray := fun j hj => by
    have hj' : j < xs.length := by simpa using hj
    have h := own_at hg ht (o := j) (by omega)
    rw [getElem!_pos xs.toArray j hj, Nat.zero_add]
    exact ⟨h.1.trans (by rw [List.getElem?_map, List.getElem?_eq_getElem hj']; rfl), h.2⟩
  refine (Try.slices_Reverse_int g 0 cc xs w hH (by omega)).mono ?_
  rintro e w' ⟨rfl, q, rfl⟩
  have h := S.own_putRow (i := 0) (q := q) (m := xs.length) (Value.int .i64) xs.reverse.toArray rfl (by simp) (by simp) h0
  refine ⟨rfl, ?_, keeps_putRow hg⟩
  have e2 : ((xs.reverse.toArray.toList.map (Value.int .i64)).take xs.length) = xs.reverse.map (.int .i64) := by
    rw [List.toList_toArray, List.take_of_length_le (by simp)]
  rw [e2] at h
  exact h

/-- What lies in memory while the gates are looked at. -/
abbrev NeedSp (w : World) (A : Option Addr) (c : Nat) (gs : List Gt) (s : (Nat → Bool) × List Nat) (sv : Value) (W : World) : Prop :=
  Sp w W [Box w.heap.size 4 (boolsA gs.length s.1), Box (w.heap.size + 1) 73 #[.slice (some ⟨w.heap.size, 0, none⟩) gs.length gs.length], Box (w.heap.size + 1 + 1) 45 #[sv], Own 3 1 sv s.2.length ((natI s.2).map (.int .i64)), Box (w.heap.size + 1 + 1 + 1) 28 #[.slice A gs.length c]]

set_option maxRecDepth 100000 in
set_option maxHeartbeats 8000000 in
theorem needed_any {vars : Int} (A : Option Addr) (c : Nat) (gs : List Gt) (w : World) (hx : GtAt w A gs) (hg : OkG vars gs) (hp : 0 < gs.length) (hl : gs.length ≤ 1000) (hv : vars ≤ 1000) :
    Calls Try.prog 65 #[.slice A gs.length c] w fun e w' => ∃ v, e = .returned v ∧ Sp w w' [Own 3 1 v (needL gs).length ((natI (needL gs)).map (.int .i64))] := by
  have h1 : 1 ≤ 10 := by omega
  obtain ⟨i0, hi0, hy0, hy1, hy2⟩ := info_parts infoInt
  obtain ⟨m, hm⟩ : ∃ m, gs.length = m + 1 := ⟨gs.length - 1, by omega⟩
  have hw : IntKind.i64.wrap ((gs.length : Int) - 1) = (m : Int) := by rw [show (gs.length : Int) - 1 = m by omega]; exact IntWalk.i64_in _ (by omega)
  have hmi : (m : Int) < gs.length := by omega
  have hml : m < gs.length := by omega
  replace hm := Lib.hid hm
  have hmk := fun W => mk_bools gs.length (by omega) (gs.length : Int) rfl W
  obtain ⟨M, hM⟩ : ∃ M, boolsA gs.length (fun _ => false) = M := ⟨_, rfl⟩
  rw [hM] at hmk
  have S0 := ((Sp.start w).alloc_box M 4).alloc_box #[.slice (some ⟨w.heap.size, 0, none⟩) gs.length gs.length] 73
  have k0 := S0.cell (i := 1) rfl (o := m) (by rw [← hM]; exact boolsA_get hml)
  have k1 := S0.frozen (i := 1) rfl m
  have hM2 : M.setIfInBounds m (.bool true) = boolsA gs.length (needF gs (([] : List (Fin gs.length)).map Fin.val)).1 := by
    rw [← hM, boolsA_set]
    refine boolsA_congr fun j _ => ?_
    have hm2 := hm.out
    by_cases e : j = m
    · simp [needF, e, show m = gs.length - 1 by omega]
    · simp [needF, e, show ¬ j = gs.length - 1 by omega]
  have S2 := (((((Sp.start w).alloc_box (M.setIfInBounds m (.bool true)) 4).alloc_box #[.slice (some ⟨w.heap.size, 0, none⟩) gs.length gs.length] 73).alloc_box #[.slice none 0 0] 45).alloc_box #[.slice A gs.length c] 28).own_nil 3 1
  simp only [World.size_alloc] at S2
  have S3 := S2.pick [4, 3, 2, 0, 0] rfl
  replace hM2 := Lib.hid hM2
  clear S0 S2
  refine (callsIn_wide (n := 10)).1 ?_
  refine callsIn_of_wp_marks Try.func65 rfl trivial ?_ rfl
  simp only [Try.ntmps65, List.size_toArray, List.length_cons, List.length_nil, Nat.reduceAdd, Nat.reduceSub, Array.replicate_succ, Array.replicate_zero, List.push_toArray, List.append_toArray, List.nil_append, List.cons_append]
  gi_wp2_with (refine ⟨trivial, ?_⟩; gi_at_call 95; refine (backward_in Fence.wide 9 trivial rfl _ _ _ _).mono ?_; rintro e w' ⟨rfl, rfl⟩)
  clear k0 k1 hmk
  have hlow : ∀ a, A = some a → a.block < w.heap.size := fun a ha => by
    obtain ⟨b, off, e, h0, -, -⟩ := hx.at_ 0 hp
    rw [ha] at e
    cases e
    exact World.block_lt_of_cell? _ _ h0
  obtain ⟨W0, hW0⟩ : ∃ W0, ((((w.alloc (.cells (M.setIfInBounds m (.bool true)) 4)).alloc (.cells #[.slice (some ⟨w.heap.size, 0, none⟩) gs.length gs.length] 73)).alloc (.cells #[.slice none 0 0] 45)).alloc (.cells #[.slice A gs.length c] 28)) = W0 := ⟨_, rfl⟩
  have hsz : W0.heap.size = w.heap.size + 4 := by rw [← hW0]; simp
  rw [hW0] at S3 ⊢
  rw [hM2.out] at S3
  clear hW0 hM2 hM
  have hBs := S3.cell (i := 4) rfl (o := 0) rfl
  have hI0 := hx.grow S3.below
  refine wpIn_rangeFunc_ownH (n := 10) rfl h1 (gf := 115) (lb := #[.pointer (some ⟨w.heap.size + 1 + 1 + 1, 0, none⟩)]) rfl trivial (enters_of Try.func115 (by kernel_rfl) rfl)
    (backward_stops Fence.wide 9 trivial rfl (by omega) (w.heap.size + 1 + 1 + 1) w.heap.size gs A c (by omega) W0 (by omega) hlow hBs hI0) keepB_t (keepB_b (by omega) (by omega)) (Below.refl _ _) (fun _ => rfl)
    (fun pre W => ∃ sv, NeedSp w A c gs (needF gs (pre.map Fin.val)) sv W)
    (fun _ _ _ => False)
    (sp_ownFrom _ (by omega) _ (fun s W ⟨sv, h⟩ => ⟨_, h, fun q hq => by
      simp only [List.mem_cons, List.not_mem_nil, or_false] at hq
      rcases hq with rfl | rfl | rfl | rfl | rfl
      · exact cellish_box _ _ _
      · exact cellish_box _ _ _
      · exact cellish_box _ _ _
      · exact cellish_own _ _ _ _ _
      · exact cellish_box _ _ _, fun W' h' => ⟨sv, h'⟩⟩))
    (fun _ _ _ _ _ hs _ _ => hs)
    ⟨_, S3⟩
    (fun x a' W => ∃ Bx, w.heap.size + 3 < Bx ∧ W.heap[Bx]? = some (.cells #[.int .i64 gs[x.val].k, .int .i64 gs[x.val].a, .int .i64 gs[x.val].b] 41 (0, 0)) ∧ a' = { tmps := #[.slice A gs.length c, undef, .slice none 0 0, .pointer (some ⟨w.heap.size + 1, 0, none⟩), .pointer (some ⟨w.heap.size + 1 + 1, 0, none⟩), .int .i64 (x.val : Int), .pointer (some ⟨Bx, 0, none⟩), undef, undef, .slice A gs.length c, .int .i64 gs.length, .slice (some ⟨w.heap.size, 0, none⟩) gs.length gs.length, .slice (some ⟨w.heap.size, 0, none⟩) gs.length gs.length, .slice A gs.length c, .int .i64 gs.length, .int .i64 m, .pointer (some ⟨w.heap.size, m, none⟩), .slice A gs.length c, .func (.func 115) #[] #[.pointer (some ⟨w.heap.size + 1 + 1 + 1, 0, none⟩)], .int .i64 (x.val : Int), gtV gs[x.val], undef, undef, undef, undef, undef, undef, undef, undef, undef, undef, undef, undef, undef, undef, undef, undef, undef, undef, undef, undef, undef, undef, undef], defers := [] })
    (fun x a' s X Y row hs hg hr => by
      obtain ⟨Bx, h1, h2, h3⟩ := hs
      exact ⟨Bx, h1, (hg.block Bx (Array.getElem?_eq_some_iff.1 h2).1 (fun e => by
        obtain ⟨-, o, ho, hc⟩ := hr Bx e.symm
        rw [h2] at ho
        cases ho
        cases hc)).trans h2, h3⟩)
    ?assign ?body ?done ?stop
  case assign =>
    rintro l pre x W K ⟨sv, hS⟩ hK
    unfold gtEncs
    gi_wp2
    refine hK _ _ ((KeepsOthers.alloc _ _).from _) ⟨?_, ?_⟩ ⟨sv, hS.alloc _⟩ ⟨W.heap.size, ?_, World.alloc_heap_new _ _, rfl⟩
    · exact (Below.refl _ W).alloc hS.below.size _
    · exact Below.heap_alloc W _ _ (hS.box (i := 4) rfl).2.1
    · have := (hS.box (i := 4) rfl).2.1; omega
  case body =>
    rintro l pre x a' W hl2 ⟨r, hr⟩ ⟨sv, hS⟩ ⟨Bx, hBx, hbx, rfl⟩ hlt
    have h1' : 1 ≤ 10 - 1 - 1 := by omega
    obtain ⟨x, hx2⟩ := x
    dsimp only at hbx ⊢
    have hsn : needF gs ((pre ++ [(⟨x, hx2⟩ : Fin gs.length)]).map Fin.val) = needStep gs (needF gs (pre.map Fin.val)) x := by rw [List.map_append, List.map_cons, List.map_nil, needF_snoc]
    have hnl := needF_len gs (pre.map Fin.val)
    rw [List.length_map] at hnl
    generalize needF gs (pre.map Fin.val) = s at hS hsn hnl
    obtain ⟨f, L⟩ := s
    have hgx := gtB_iff.1 (hg x hx2)
    have hins := ins_lt (hg x hx2)
    have hd : gs.getD x ⟨0, 0, 0⟩ = gs[x] := by rw [List.getD_eq_getElem?_getD, List.getElem?_eq_getElem hx2]; rfl
    have hsn2 : needStep gs (f, L) x = if f x then (fun j => f j || decide (j ∈ insG gs[x]), L ++ [x]) else (f, L) := by rw [← hd]; rfl
    rw [hsn2] at hsn
    clear hsn2 hd
    generalize gs[x] = g at hbx hgx hins hsn ⊢
    obtain ⟨gk, ga, gb⟩ := g
    dsimp only at hbx hgx hins hnl
    unfold NeedSp at hS
    dsimp only at hS
    have hS2 := hS.add_box (fun q hq => by
      simp only [List.mem_cons, List.not_mem_nil, or_false] at hq
      rcases hq with rfl | rfl | rfl | rfl | rfl
      · exact notOf_box (by decide)
      · exact notOf_box (by decide)
      · exact notOf_box (by decide)
      · exact notOf_own (by decide)
      · exact notOf_box (by decide)) (by omega) hbx
    have hxi : (x : Int) < gs.length := by omega
    have c0 := hS2.cell (i := 2) rfl (o := 0) rfl
    have c1 := hS2.cell (i := 1) rfl (o := x) (boolsA_get hx2)
    have hga : 0 ≤ ga ∧ ga ≤ 1000000 := by omega
    have hgb : 0 ≤ gb ∧ gb ≤ 1000000 := by omega
    replace hga := Lib.hid hga
    replace hgb := Lib.hid hgb
    replace hgx := Lib.hid hgx
    replace hsn := Lib.hid hsn
    replace hS2 := Lib.hid hS2
    clear hS hbx hI0 hBs S3
    (try dsimp only at c1)
    cases hfx : f x
    · rw [hfx] at c1
      gi_wp2
      refine ⟨KeepsFrom.refl _ _, ⟨Below.refl _ _, rfl⟩, sv, ?_⟩
      rw [hsn.out, hfx, if_neg (by decide)]
      exact hS2.out.tail
    rw [hfx] at c1
    obtain ⟨aS, cS, rfl⟩ := own_slice (hS2.out.own (i := 4) rfl)
    have c2 := hS2.out.cell (i := 3) rfl (o := 0) rfl
    have S3 := hS2.out.alloc_box #[.int .i64 x] 3
    have kB := S3.cell (i := 0) rfl (o := 0) rfl
    have d0 := S3.cell (i := 1) rfl (o := 0) rfl
    have d1 := S3.cell (i := 1) rfl (o := 1) rfl
    have d2 := S3.cell (i := 1) rfl (o := 2) rfl
    replace S3 := Lib.hid S3
    gi_wp2_with first | (gi_at_builtin; refine wpListIn_append_own_at _ rfl _ _ 45 rfl 0 3 i0 (.int .i64 0) 1 8 Try.underlying45 hi0 hy0 hy1 hy2 rfl (by decide) _ _ _ rfl (S3.out.own (i := 5) rfl) ⟨W.heap.size, 0, none⟩ 1 1 [.int .i64 x] rfl rfl (cell_one_new _ _ _) (by simp [Value.oneCell']) (by unfold maxLen; omega) (by omega) (Nat.zero_le _) ?_; intro vY wY hownY hgY _ hatY; have S4 := (S3.out.own_push (i := 5) rfl (bb _) hownY hgY hatY).tail; obtain ⟨aY, cY, rfl⟩ := own_slice hownY; replace S4 := Lib.hid S4; have e2 := S4.out.cell (i := 3) rfl (o := 0) rfl; have e3 := S4.out.frozen (i := 3) rfl 0; have u0 := S4.out.cell (i := 0) rfl (o := 0) rfl; have u1 := S4.out.cell (i := 0) rfl (o := 1) rfl; have u2 := S4.out.cell (i := 0) rfl (o := 2) rfl; have S5 := Lib.hid (S4.out.store (i := 3) rfl 0 (.slice aY (L.length + 1) cY)); have hKY := Lib.hid ((KeepsOthers.alloc W (.cells #[.int .i64 x] 3)).trans ((KeepsOthers.of_grownBy hgY (own_cells (S3.out.own (i := 5) rfl))).trans (KeepsOthers.setCell wY ⟨w.heap.size + 1 + 1, 0, none⟩ (.slice aY (L.length + 1) cY)))); clear S3 S4 hownY hgY hatY kB d0 d1 d2) | (refine ⟨trivial, ?_⟩; gi_at_call 96; refine (CallsIn.inRound l (callsIn_wide.2 (inputs_any ⟨gk, ga, gb⟩ hga.out hgb.out _))).mono ?_; rintro e w5 ⟨A5, c5, rfl, hI5, hb5⟩)
    have S6 := S5.out.grow hb5
    have hK6 := Lib.hid ((hKY.out.trans (keeps_below hb5)).from (w.heap.size + 4))
    have hI2 : (insG ⟨gk, ga, gb⟩).length ≤ 2 := by
      unfold insG
      split
      · simp
      · split
        · simp
        · simp
    generalize insG ⟨gk, ga, gb⟩ = I at hI5 hI2 hsn hins ⊢
    have hS7 : Sp w w5 [Box Bx 41 #[.int .i64 gk, .int .i64 ga, .int .i64 gb], Box w.heap.size 4 (boolsA gs.length (fun j => f j || decide (j ∈ I.take 0))), Box (w.heap.size + 1) 73 #[.slice (some ⟨w.heap.size, 0, none⟩) gs.length gs.length], Box (w.heap.size + 1 + 1) 45 #[.slice aY (L.length + 1) cY], Own 3 1 (.slice aY (L.length + 1) cY) (L.length + 1) ((natI L).map (.int .i64) ++ [.int .i64 x]), Box (w.heap.size + 1 + 1 + 1) 28 #[.slice A gs.length c]] := by
      rw [boolsA_congr (g := f) (fun j _ => by simp)]
      exact S6
    replace hS7 := Lib.hid hS7
    replace hI5 := Lib.hid hI5
    clear S5 S6 hKY hb5 hga hgb hgx c0 c1 c2
    gi_loopw [33] (fun i wr => ∃ q : Nat, q ≤ I.length ∧ i = .int .i64 q ∧ Hid (Sp w wr [Box Bx 41 #[.int .i64 gk, .int .i64 ga, .int .i64 gb], Box w.heap.size 4 (boolsA gs.length (fun j => f j || decide (j ∈ I.take q))), Box (w.heap.size + 1) 73 #[.slice (some ⟨w.heap.size, 0, none⟩) gs.length gs.length], Box (w.heap.size + 1 + 1) 45 #[.slice aY (L.length + 1) cY], Own 3 1 (.slice aY (L.length + 1) cY) (L.length + 1) ((natI L).map (.int .i64) ++ [.int .i64 x]), Box (w.heap.size + 1 + 1 + 1) 28 #[.slice A gs.length c]]) ∧ Hid (IntsAt wr A5 (natI I)) ∧ Hid (KeepsFrom (w.heap.size + 4) W wr)) (fun i _ => I.length - (intOf i).toNat)
    case atStart => exact ⟨0, Nat.zero_le _, rfl, hS7, hI5, hK6⟩
    case round =>
      obtain ⟨q, hq, rfl, hSr, hIr, hKr⟩ := hrel
      by_cases hlt : q < I.length
      · have hqi : (q : Int) < I.length := by omega
        have hnl2 := natI_len I
        obtain ⟨b, off, e, hc⟩ := hIr.out.at_ q (by omega)
        have hne := Lib.hid (ints_ne (i := 1) hSr.out rfl hIr.out (by intro e0; rw [e0] at hnl2; simp at hnl2; omega))
        subst e
        have hv2 : (natI I)[q]'(by omega) = ((I[q] : Nat) : Int) := by simp [natI]
        rw [hv2] at hc
        have hy := Nat.lt_trans (hins _ (List.getElem_mem hlt)) hx2
        have htk : I.take (q + 1) = I.take q ++ [I[q]] := by rw [List.take_succ_eq_append_getElem hlt]
        have htk2 := Lib.hid htk
        clear htk hv2
        generalize I[q] = y at hc hy htk2
        have hyi : (y : Int) < gs.length := by omega
        have t0 := hSr.out.cell (i := 2) rfl (o := 0) rfl
        have t1 := hSr.out.cell (i := 1) rfl (o := y) (boolsA_get hy)
        have t2 := hSr.out.frozen (i := 1) rfl y
        have SS := Lib.hid (hSr.out.store (i := 1) rfl y (.bool true))
        clear hSr
        gi_wp2
        go_roundw
        case rel =>
          refine ⟨q + 1, by omega, by first | rfl | simp, ?_, ?_, ?_⟩
          · have h := SS.out
            simp only [List.set_cons_zero, List.set_cons_succ] at h
            rw [boolsA_set] at h
            unfold Hid
            rw [htk2.out]
            rw [boolsA_congr (g := fun j => f j || decide (j ∈ I.take q ++ [y])) (fun j _ => by
              by_cases e : j = y
              · simp [e]
              · simp [e])] at h
            exact h
          · exact Lib.hid (hIr.out.set hne.out _ _)
          · exact Lib.hid (hKr.out.trans ((KeepsOthers.setCell _ _ _).from _))
        case measure => simp [intOf]; omega
      · obtain rfl : q = I.length := by omega
        gi_wp2
        have hf := hSr.out
        rw [List.take_length] at hf
        have hb1 := (hS2.out.box (i := 5) rfl).2.2
        have hb2 := (hf.box (i := 5) rfl).2.2
        refine ⟨by rw [hsz]; exact hKr.out, ⟨below_both hS2.out.below hf.below hKr.out.size, hb2.trans hb1.symm⟩, .slice aY (L.length + 1) cY, ?_⟩
        rw [hsn.out, hfx, if_pos rfl]
        unfold NeedSp
        have e1 : (L ++ [x]).length = L.length + 1 := by simp
        have e2 : natI (L ++ [x]) = natI L ++ [(x : Int)] := by simp [natI]
        dsimp only
        rw [e1, e2, List.map_append]
        exact hf.tail
  case done =>
    rintro D ys W hD rfl ⟨sv, hS⟩ hK
    rw [comeF_all] at hS
    have hneed : needL gs = (needF gs (downN gs.length)).2.reverse := rfl
    have hlast := (need_needs hg hp).2
    generalize needF gs (downN gs.length) = s at hS hneed
    obtain ⟨f, L⟩ := s
    unfold NeedSp at hS
    dsimp only at hS hneed
    have hnil : 0 < L.length := by
      rcases Nat.eq_zero_or_pos L.length with h0 | h0
      · rw [hneed, List.length_eq_zero_iff.1 h0] at hlast
        cases hlast
      · exact h0
    obtain ⟨aS, cS, rfl⟩ := own_slice (hS.own (i := 3) rfl)
    have hS2 := hS.pick [3, 2] rfl
    have hnl := natI_len L
    rw [← hnl] at hS2
    have hlen : L.length ≤ 1000 := by
      have h := asc_len (need_needs hg hp).1.asc (fun x hx => (need_needs hg hp).1.lt x hx)
      rw [hneed, List.length_reverse] at h
      omega
    have hrev := Lib.hid (reverseI_any (natI L) aS cS w W _ hS2 (by omega) (by omega))
    have c0 := hS2.cell (i := 1) rfl (o := 0) rfl
    rw [hnl] at hrev c0
    clear hS hS2 hI0 hBs S3
    replace hneed := Lib.hid hneed
    replace hlast := Lib.hid hlast
    gi_wp2_with (refine ⟨trivial, ?_⟩; gi_at_call 97; refine (callsIn_wide.2 hrev.out).mono ?_; rintro e w5 ⟨rfl, hS5, hk5⟩; have c1 := hS5.cell (i := 1) rfl (o := 0) rfl; replace hk5 := Lib.hid hk5; replace hS5 := Lib.hid hS5)
    have hK5 := hk5.out.same D _ hK rfl
    refine ⟨by simp, .inl ⟨_, _, rfl, run_takeDeferred hK5, ?_⟩⟩
    refine ⟨_, results_tmp rfl _ _ _, _, rfl, ?_⟩
    have hT := hS5.out.turn (B := w5.putObj D (.deferred none)) (fun q hq => by
      simp only [List.mem_cons, List.not_mem_nil, or_false] at hq
      rcases hq with rfl | rfl
      · exact cellish_own _ _ _ _ _
      · exact cellish_box _ _ _) (grownBy_putObj' w5 D (.deferred none)) (fun r e => by
      cases e
      exact ⟨by omega, _, hK5, rfl⟩)
    have e1 : (needL gs).length = L.length := by rw [hneed.out, List.length_reverse]
    have e2 : natI (needL gs) = (natI L).reverse := by rw [hneed.out]; simp [natI]
    rw [e1, e2]
    exact hT.pick [0] rfl
  case stop =>
    rintro D c pre W _ _ h _
    exact h.elim
end Go.Proofs.Ytkhopkonddgicaa

/- Contract: the number of a gate among gates (slices.Index). -/
namespace Go.Proofs.Ytkhopkonddgicaa
open Go.RowKit

def idxG (ns : List Gt) (n : Gt) : Int := if n ∈ ns then (ns.idxOf n : Nat) else -1
theorem idxG_here {ns : List Gt} {n : Gt} {k : Nat} (hk : k < ns.length) (h : n ∉ ns.take k) (e : ns[k] = n) : idxG ns n = k := by
  unfold idxG
  have hmem : n ∈ ns := e ▸ List.getElem_mem hk
  rw [if_pos hmem]
  have h1 : ns.idxOf n = k := by
    have h2 : ns = ns.take k ++ ns.drop k := (List.take_append_drop k ns).symm
    rw [h2, List.idxOf_append, if_neg h, List.length_take, Nat.min_eq_left (Nat.le_of_lt hk), ← List.getElem_cons_drop hk, e]
    simp
  rw [h1]
theorem idxG_next {ns : List Gt} {n : Gt} {k : Nat} (hk : k < ns.length) (h : n ∉ ns.take k) (e : ns[k] ≠ n) : n ∉ ns.take (k + 1) := by
  rw [List.take_succ_eq_append_getElem hk]
  simp only [List.mem_append, List.mem_singleton, not_or]
  exact ⟨h, fun h2 => e h2.symm⟩

theorem gt_guard : Try.prog.eqGuardType Try.prog.depth 41 = false := by kernel_rfl
theorem gt_held : Try.prog.stoodInHeld 41 = false := by kernel_rfl
theorem gt_fields : Try.prog.underlying 41 = some (.struct (Try.prog.fieldsOf 41)) := by kernel_rfl
theorem eql_gt (a b : Gt) (w : World) : (binOp .eql 41 (gtV a) (gtV b)).run Try.prog w = .ok (.bool (a.k == b.k && a.a == b.a && a.b == b.b)) w := by
  rw [run_eql_struct, run_equalIn_agg w 9999 _ _ _ gt_fields gt_held]
  simp only [Program.fieldsOf, Try.underlying41]
  go_simp
  by_cases h1 : a.k = b.k <;> by_cases h2 : a.a = b.a <;> by_cases h3 : a.b = b.b <;> simp [h1, h2, h3]
theorem gt_eqB (a b : Gt) : (a.k == b.k && a.a == b.a && a.b == b.b) = decide (a = b) := by
  obtain ⟨x, y, z⟩ := a
  obtain ⟨x', y', z'⟩ := b
  simp only [Gt.mk.injEq]
  by_cases h1 : x = x' <;> by_cases h2 : y = y' <;> by_cases h3 : z = z' <;> simp [h1, h2, h3]

set_option maxRecDepth 100000 in
set_option maxHeartbeats 4000000 in
theorem indexGt_any (n : Gt) (A : Option Addr) (c : Nat) (ns : List Gt) (w : World) (hx : GtAt w A ns) (hl : ns.length ≤ 1000000) :
    Calls Try.prog 126 #[.slice A ns.length c, gtV n] w fun e w' => e = .returned (.int .i64 (idxG ns n)) ∧ Below w.heap.size w w' := by
  obtain ⟨v, lo, hi⟩ := n
  have S0 := Lib.hid ((Sp.start w).alloc_box #[.int .i64 v, .int .i64 lo, .int .i64 hi] 41)
  have hN := Lib.hid hx
  clear hx
  go_enter Try.func126, Try.ntmps126
  go_wp2_with fail
  go_loopw [8] (fun i wr => ∃ k : Nat, k ≤ ns.length ∧ i = .int .i64 k ∧ Hid ((⟨v, lo, hi⟩ : Gt) ∉ ns.take k) ∧ Hid (Sp w wr [Box w.heap.size 41 #[.int .i64 v, .int .i64 lo, .int .i64 hi]])) (fun i _ => ns.length - (intOf i).toNat)
  case atStart => exact ⟨0, Nat.zero_le _, rfl, by unfold Hid; simp, S0⟩
  case round =>
    obtain ⟨k, hk, rfl, HD, HS⟩ := hrel
    clear S0
    by_cases hlt : k < ns.length
    · obtain ⟨b, off, rfl, m0, m1, m2⟩ := (hN.out.grow HS.out.below).at_ k hlt
      have k0 := cell_regrown m0
      have k1 := cell_regrown m1
      have k2 := cell_regrown m2
      have c0 := cell_regrown (HS.out.cell (i := 0) rfl (o := 0) rfl)
      have c1 := cell_regrown (HS.out.cell (i := 0) rfl (o := 1) rfl)
      have c2 := cell_regrown (HS.out.cell (i := 0) rfl (o := 2) rfl)
      have hyes := Lib.hid (idxG_here hlt HD.out)
      have hno := Lib.hid (idxG_next hlt HD.out)
      generalize ns[k] = m at *
      obtain ⟨v', lo', hi'⟩ := m
      dsimp only at *
      clear m0 m1 m2
      have hst := gt_held
      have hgu := gt_guard
      by_cases e : (⟨v', lo', hi'⟩ : Gt) = ⟨v, lo, hi⟩
      · have hR := Lib.hid (hyes.out e)
        cases e
        clear hyes hno HD
        go_wp2_with fail
        refine wp_region_quiet_below (by kernel_rfl) (by kernel_rfl) ?_
        repeat (any_goals (go_big_quiet_step (fail)))
        refine wpQuiet_nil ?_
        rintro w1 ⟨p, rfl⟩
        have HS2 := Lib.hid (HS.out.grow (below_regrown _ p.d p.os))
        clear HS k0 k1 k2 c0 c1 c2
        go_wp2_with fail
        go_ret
        exact ⟨ret_int hR.out.symm, HS2.out.below⟩
      · have hD := Lib.hid (hno.out e)
        have hcase : (¬ v = v') ∨ (v = v' ∧ ¬ lo = lo') ∨ (v = v' ∧ lo = lo' ∧ ¬ hi = hi') := by
          by_cases h1 : v = v'
          · by_cases h2 : lo = lo'
            · exact .inr (.inr ⟨h1, h2, fun h3 => e (by rw [h1, h2, h3])⟩)
            · exact .inr (.inl ⟨h1, h2⟩)
          · exact .inl h1
        clear hyes hno HD e
        rcases hcase with hne | ⟨rfl, hne⟩ | ⟨rfl, rfl, hne⟩
        all_goals
          go_wp2_with fail
          refine wp_region_quiet_below (by kernel_rfl) (by kernel_rfl) ?_
          repeat (any_goals (go_big_quiet_step (fail)))
          refine wpQuiet_nil ?_
          rintro w1 ⟨p, rfl⟩
          have HS2 := Lib.hid (HS.out.grow (below_regrown _ p.d p.os))
          clear HS k0 k1 k2 c0 c1 c2
          go_wp2_with fail
          go_roundw
          case rel => exact ⟨k + 1, by omega, by go_num, hD, HS2⟩
          case measure => simp [intOf]; omega
    · obtain rfl : k = ns.length := by omega
      have hR : Hid (idxG ns ⟨v, lo, hi⟩ = -1) := by
        unfold Hid idxG
        have := HD.out
        rw [List.take_length] at this
        rw [if_neg this]
      have hB := HS.out.below
      clear HD HS
      go_wp2_with fail
      go_ret
      exact ⟨ret_int hR.out.symm, hB⟩
end Go.Proofs.Ytkhopkonddgicaa

/- Plain facts: folding keeps each gate once, and the values. No program in sight. -/
namespace Go.Proofs.Ytkhopkonddgicaa

def keepG (K : List Gt) (g : Gt) : List Gt × Nat := if g ∈ K then (K, K.idxOf g) else (K ++ [g], K.length)
def kindG (K : List Gt) (i : Int) : Int := (K.getD i.toNat ⟨0, 0, 0⟩).k
def pairG (K : List Gt) (g : Gt) (d n : Int) : List Gt × Nat :=
  if kindG K g.a = d then (K, g.a.toNat) else if kindG K g.b = d then (K, g.b.toNat) else if kindG K g.a = n then (K, g.b.toNat)
  else if kindG K g.b = n ∨ g.a = g.b then (K, g.a.toNat) else keepG K g
def foldG (K : List Gt) (g : Gt) : List Gt × Nat :=
  if g.k = 4 then
    if kindG K g.a = 2 then keepG K ⟨3, 0, 0⟩ else if kindG K g.a = 3 then keepG K ⟨2, 0, 0⟩
    else if kindG K g.a = 4 then (K, (K.getD g.a.toNat ⟨0, 0, 0⟩).a.toNat) else keepG K g
  else if g.k = 5 then pairG K g 3 2 else if g.k = 6 then pairG K g 2 3 else keepG K g
/-- What a folded gate is. -/
structure Folded (vars : Int) (K : List Gt) (g : Gt) (q : List Gt × Nat) : Prop where
  pre : ∃ ms, q.1 = K ++ ms
  len : q.1.length ≤ K.length + 1
  ok : OkG vars q.1
  lt : q.2 < q.1.length
  val : ∀ bits, gval bits q.1 q.2 = gv bits (gval bits K) g
theorem keep_ok {vars : Int} {K : List Gt} {g : Gt} (h : OkG vars K) (hg : gtB vars K.length g = true) : Folded vars K g (keepG K g) := by
  unfold keepG
  by_cases hin : g ∈ K
  · rw [if_pos hin]
    have hi := List.idxOf_lt_length_of_mem hin
    refine ⟨⟨[], by simp⟩, by dsimp only; omega, h, hi, fun bits => ?_⟩
    have := h.val bits hi
    rwa [List.getElem_idxOf hi] at this
  · rw [if_neg hin]
    exact ⟨⟨[g], rfl⟩, by simp, h.snoc hg, by simp, fun bits => gval_new bits K g⟩
theorem here_ok {vars : Int} {K : List Gt} {g : Gt} {r : Nat} (h : OkG vars K) (hr : r < K.length) (hv : ∀ bits, gval bits K r = gv bits (gval bits K) g) : Folded vars K g (K, r) :=
  ⟨⟨[], by simp⟩, by dsimp only; omega, h, hr, hv⟩
theorem kind_at {K : List Gt} {i : Int} (h : i.toNat < K.length) : kindG K i = K[i.toNat].k := by
  unfold kindG; rw [List.getD_eq_getElem?_getD, List.getElem?_eq_getElem h]; rfl
theorem val_true {vars : Int} {K : List Gt} {i : Int} (h : OkG vars K) (hi : i.toNat < K.length) (hk : kindG K i = 2) (bits : Nat) : gval bits K i.toNat = true := by
  rw [kind_at hi] at hk
  rw [h.val bits hi]; simp [gv, hk]
theorem val_false {vars : Int} {K : List Gt} {i : Int} (h : OkG vars K) (hi : i.toNat < K.length) (hk : kindG K i = 3) (bits : Nat) : gval bits K i.toNat = false := by
  rw [kind_at hi] at hk
  rw [h.val bits hi]; simp [gv, hk]
theorem fold_ok {vars : Int} {K : List Gt} {g : Gt} (h : OkG vars K) (hg : gtB vars K.length g = true) : Folded vars K g (foldG K g) := by
  have hins := ins_lt hg
  unfold insG at hins
  unfold foldG
  by_cases h4 : g.k = 4
  · rw [if_pos h4] at hins ⊢
    have ha := hins _ (List.mem_singleton.2 rfl)
    have hv : ∀ bits, gv bits (gval bits K) g = !gval bits K g.a.toNat := fun bits => by simp [gv, h4]
    by_cases k2 : kindG K g.a = 2
    · rw [if_pos k2]
      have := keep_ok h (show gtB vars K.length ⟨3, 0, 0⟩ = true from rfl)
      exact ⟨this.pre, this.len, this.ok, this.lt, fun bits => by rw [this.val, hv, val_true h ha k2]; rfl⟩
    rw [if_neg k2]
    by_cases k3 : kindG K g.a = 3
    · rw [if_pos k3]
      have := keep_ok h (show gtB vars K.length ⟨2, 0, 0⟩ = true from rfl)
      exact ⟨this.pre, this.len, this.ok, this.lt, fun bits => by rw [this.val, hv, val_false h ha k3]; rfl⟩
    rw [if_neg k3]
    by_cases k4 : kindG K g.a = 4
    · rw [if_pos k4]
      have hd : K.getD g.a.toNat ⟨0, 0, 0⟩ = K[g.a.toNat] := by rw [List.getD_eq_getElem?_getD, List.getElem?_eq_getElem ha]; rfl
      rw [kind_at ha] at k4
      have hlt : K[g.a.toNat].a.toNat < g.a.toNat := ins_lt (h _ ha) _ (by unfold insG; rw [if_pos k4]; exact List.mem_singleton.2 rfl)
      rw [hd]
      refine here_ok h (by omega) fun bits => ?_
      rw [hv, h.val bits ha]
      simp [gv, k4]
    · rw [if_neg k4]; exact keep_ok h hg
  rw [if_neg h4] at hins ⊢
  by_cases h5 : g.k = 5
  · rw [if_pos h5]
    rw [if_pos (.inl h5)] at hins
    have ha := hins g.a.toNat (by simp)
    have hb := hins g.b.toNat (by simp)
    have hv : ∀ bits, gv bits (gval bits K) g = (gval bits K g.a.toNat && gval bits K g.b.toNat) := fun bits => by simp [gv, h5]
    unfold pairG
    by_cases k1 : kindG K g.a = 3
    · rw [if_pos k1]; exact here_ok h ha fun bits => by rw [hv, val_false h ha k1]; rfl
    rw [if_neg k1]
    by_cases k2 : kindG K g.b = 3
    · rw [if_pos k2]; exact here_ok h hb fun bits => by rw [hv, val_false h hb k2, Bool.and_false]
    rw [if_neg k2]
    by_cases k3 : kindG K g.a = 2
    · rw [if_pos k3]; exact here_ok h hb fun bits => by rw [hv, val_true h ha k3, Bool.true_and]
    rw [if_neg k3]
    by_cases k4 : kindG K g.b = 2 ∨ g.a = g.b
    · rw [if_pos k4]
      refine here_ok h ha fun bits => ?_
      rcases k4 with k4 | k4
      · rw [hv, val_true h hb k4, Bool.and_true]
      · rw [hv, ← k4, Bool.and_self]
    rw [if_neg k4]; exact keep_ok h hg
  rw [if_neg h5]
  by_cases h6 : g.k = 6
  · rw [if_pos h6]
    rw [if_pos (.inr h6)] at hins
    have ha := hins g.a.toNat (by simp)
    have hb := hins g.b.toNat (by simp)
    have hv : ∀ bits, gv bits (gval bits K) g = (gval bits K g.a.toNat || gval bits K g.b.toNat) := fun bits => by simp [gv, h6]
    unfold pairG
    by_cases k1 : kindG K g.a = 2
    · rw [if_pos k1]; exact here_ok h ha fun bits => by rw [hv, val_true h ha k1]; rfl
    rw [if_neg k1]
    by_cases k2 : kindG K g.b = 2
    · rw [if_pos k2]; exact here_ok h hb fun bits => by rw [hv, val_true h hb k2, Bool.or_true]
    rw [if_neg k2]
    by_cases k3 : kindG K g.a = 3
    · rw [if_pos k3]; exact here_ok h hb fun bits => by rw [hv, val_false h ha k3, Bool.false_or]
    rw [if_neg k3]
    by_cases k4 : kindG K g.b = 3 ∨ g.a = g.b
    · rw [if_pos k4]
      refine here_ok h ha fun bits => ?_
      rcases k4 with k4 | k4
      · rw [hv, val_false h hb k4, Bool.or_false]
      · rw [hv, ← k4, Bool.or_self]
    rw [if_neg k4]; exact keep_ok h hg
  rw [if_neg h6]; exact keep_ok h hg

/-- Gates are folded one after the other: the kept ones, and what each became. -/
def foldsG (gs : List Gt) : List Gt × List Nat := gs.foldl (fun s g => let q := foldG s.1 (mvG (fun k => s.2.getD k 0) g); (q.1, s.2 ++ [q.2])) ([], [])
theorem folds_snoc (gs : List Gt) (g : Gt) : foldsG (gs ++ [g]) = ((foldG (foldsG gs).1 (mvG (fun k => (foldsG gs).2.getD k 0) g)).1, (foldsG gs).2 ++ [(foldG (foldsG gs).1 (mvG (fun k => (foldsG gs).2.getD k 0) g)).2]) := by
  unfold foldsG; rw [List.foldl_append]; rfl
structure FInv (vars : Int) (gs : List Gt) (s : List Gt × List Nat) : Prop where
  n : s.2.length = gs.length
  len : s.1.length ≤ gs.length
  ok : OkG vars s.1
  lt : ∀ i, i < gs.length → s.2.getD i 0 < s.1.length
  val : ∀ i, i < gs.length → ∀ bits, gval bits s.1 (s.2.getD i 0) = gval bits gs i
theorem finv_snoc {vars : Int} {gs : List Gt} {g : Gt} (h : FInv vars gs (foldsG gs)) (hg : gtB vars gs.length g = true) : FInv vars (gs ++ [g]) (foldsG (gs ++ [g])) := by
  have hlt := ins_lt hg
  have hm : gtB vars (foldsG gs).1.length (mvG (fun k => (foldsG gs).2.getD k 0) g) = true := mv_ok hg fun k hk => h.lt k (hlt k hk)
  have hf := fold_ok h.ok hm
  rw [folds_snoc]
  generalize foldG (foldsG gs).1 (mvG (fun k => (foldsG gs).2.getD k 0) g) = q at hf
  generalize foldsG gs = s at *
  obtain ⟨K', r⟩ := q
  obtain ⟨ms, hms⟩ := hf.pre
  have hval := hf.val
  have hlen := hf.len
  have hrl := hf.lt
  have hn := h.n
  have hl := h.len
  dsimp only at hms hval hlen hrl ⊢
  have old : ∀ i, i < gs.length → (s.2 ++ [r]).getD i 0 = s.2.getD i 0 := fun i hi => by
    rw [List.getD_eq_getElem?_getD, List.getElem?_append_left (by omega), ← List.getD_eq_getElem?_getD]
  have new : (s.2 ++ [r]).getD gs.length 0 = r := by
    rw [List.getD_eq_getElem?_getD, ← hn, List.getElem?_concat_length]; rfl
  refine ⟨by dsimp only; simp; omega, by dsimp only; simp; omega, hf.ok, fun i hi => ?_, fun i hi bits => ?_⟩
  · rw [List.length_append, List.length_singleton] at hi
    dsimp only
    by_cases e : i < gs.length
    · rw [old i e, hms, List.length_append]
      have := h.lt i e
      omega
    · obtain rfl : i = gs.length := by omega
      rw [new]; exact hrl
  · rw [List.length_append, List.length_singleton] at hi
    dsimp only
    by_cases e : i < gs.length
    · rw [old i e, hms, gval_pre (h.lt i e), gval_snoc e]
      exact h.val i e bits
    · obtain rfl : i = gs.length := by omega
      rw [new, hval, gval_new]
      exact mv_val fun k hk => h.val k (hlt k hk) bits
theorem finv {vars : Int} : ∀ (gs : List Gt), OkG vars gs → FInv vars gs (foldsG gs) := by
  intro gs
  induction gs using snoc_ind with
  | h0 => intro _; exact ⟨rfl, Nat.le_refl _, fun i hi => absurd hi (by simp [foldsG]), fun i hi => absurd hi (by simp), fun i hi => absurd hi (by simp)⟩
  | h1 gs g ih =>
    intro h
    have h1 : OkG vars gs := by
      have := h.take gs.length
      rwa [List.take_left] at this
    have h2 : gtB vars gs.length g = true := by
      have := h gs.length (by simp)
      rwa [List.getElem_concat_length rfl] at this
    exact finv_snoc (ih h1) h2
end Go.Proofs.Ytkhopkonddgicaa

/- Contract: a gate is kept, once. -/
namespace Go.Proofs.Ytkhopkonddgicaa
open Go.RowKit

theorem infoGt : (Try.prog.info? 41).map (fun i => (i.zero, i.size, i.bytes)) = some (some (.agg #[.int .i64 0, .int .i64 0, .int .i64 0]), 3, 24) := by kernel_rfl
theorem Src.threeG {w : World} {b : Nat} {x y z : Value} (h0 : w.cell? ⟨b, 0, none⟩ = some x) (h1 : w.cell? ⟨b, 1, none⟩ = some y) (h2 : w.cell? ⟨b, 2, none⟩ = some z) : Src w (some ⟨b, 0, none⟩) 1 3 [x, y, z] :=
  .inr ⟨_, rfl, rfl, fun j u hj => by
    match j, hj with
    | 0, hj => simp at hj; subst hj; rw [add_none]; exact h0
    | 1, hj => simp at hj; subst hj; rw [add_none]; exact h1
    | 2, hj => simp at hj; subst hj; rw [add_none]; exact h2⟩
/-- What a folder holds. -/
abbrev FoldSp (w0 : World) (p : Nat) (sv : Value) (M : List Gt) (ps : List Asn) (w : World) : Prop :=
  Sp w0 w (Box p 91 #[sv] :: Own 41 3 sv M.length (M.flatMap gtEnc) :: ps)

set_option maxRecDepth 100000 in
set_option maxHeartbeats 8000000 in
theorem keep_any {w0 : World} {ps : List Asn} (p : Nat) (sv : Value) (M : List Gt) (g : Gt) (w : World) (hok : ∀ x ∈ M, gtOk x) (hl : M.length ≤ 1000) (HS : FoldSp w0 p sv M ps w) :
    Calls Try.prog 113 #[.pointer (some ⟨p, 0, none⟩), gtV g] w fun e w' => ∃ sv', e = .returned (.int .i64 ((keepG M g).2 : Nat)) ∧ FoldSp w0 p sv' (keepG M g).1 ps w' := by
  obtain ⟨k, a, b⟩ := g
  obtain ⟨A, c, rfl, hN⟩ := gt_own (HS.own (i := 1) rfl) hok
  have S3 := HS.alloc_box #[.int .i64 k, .int .i64 a, .int .i64 b] 41
  have hpl := (S3.box (i := 1) rfl).2.1
  have hps := (HS.box (i := 0) rfl).2.1
  have hix := Lib.hid (fun W (h : Below w.heap.size w W) => indexGt_any ⟨k, a, b⟩ A c M W (hN.grow h) (by omega))
  have d0 := cell_regrown (S3.cell (i := 0) rfl (o := 0) rfl)
  have d1 := cell_regrown (S3.cell (i := 0) rfl (o := 1) rfl)
  have d2 := cell_regrown (S3.cell (i := 0) rfl (o := 2) rfl)
  have e2 := cell_regrown (S3.cell (i := 1) rfl (o := 0) rfl)
  have hB3 := bal (bb w) (.cells #[.int .i64 k, .int .i64 a, .int .i64 b] 41)
  have HS3 := Lib.hid S3
  clear S3 hN HS
  by_cases hin : (⟨k, a, b⟩ : Gt) ∈ M
  · have hil := List.idxOf_lt_length_of_mem hin
    have hid : Hid (keepG M ⟨k, a, b⟩ = (M, M.idxOf ⟨k, a, b⟩)) := by unfold Hid keepG; rw [if_pos hin]
    have hii : idxG M ⟨k, a, b⟩ = ((M.idxOf ⟨k, a, b⟩ : Nat) : Int) := by unfold idxG; rw [if_pos hin]
    rw [hii] at hix
    generalize M.idxOf ⟨k, a, b⟩ = q at hil hid hix
    clear hii hin
    go_enter Try.func113, Try.ntmps113
    go_wp2_with fail
    refine wp_region_quiet_below (by kernel_rfl) (by kernel_rfl) ?_
    repeat (any_goals (go_big_quiet_step ((go_at_call 126; exact Calls.regrown_of (hix.out _ ((bal (bb _) _).trans ((below_regrown _ _ _).mono (by simp))))))))
    refine wpQuiet_nil ?_
    rintro w3 ⟨pp, rfl⟩
    have HS4 := Lib.hid (HS3.out.grow (below_regrown _ pp.d pp.os)).tail
    clear HS3 d0 d1 d2 e2 hix
    go_wp2_with fail
    go_ret
    exact ⟨_, ret_int (by rw [hid.out]), by rw [hid.out]; exact HS4.out⟩
  · obtain ⟨i0, hi0, hz0, hz1, hz2⟩ := info_parts infoGt
    have hid : Hid (keepG M ⟨k, a, b⟩ = (M ++ [⟨k, a, b⟩], M.length)) := by unfold Hid keepG; rw [if_neg hin]
    have hii : idxG M ⟨k, a, b⟩ = -1 := by unfold idxG; rw [if_neg hin]
    rw [hii] at hix
    clear hii hin
    go_enter Try.func113, Try.ntmps113
    go_wp2_with fail
    refine wp_region_quiet_below (by kernel_rfl) (by kernel_rfl) ?_
    repeat (any_goals (go_big_quiet_step ((go_at_call 126; exact Calls.regrown_of (hix.out _ ((bal (bb _) _).trans ((below_regrown _ _ _).mono (by simp))))))))
    refine wpQuiet_nil ?_
    rintro w3 ⟨pp, hw3⟩
    have HS4 := HS3.out.grow (w' := w3) (hw3 ▸ below_regrown _ pp.d pp.os)
    have f0 := HS4.cell (i := 0) rfl (o := 0) rfl
    have f1 := HS4.cell (i := 0) rfl (o := 1) rfl
    have f2 := HS4.cell (i := 0) rfl (o := 2) rfl
    have g2 := HS4.cell (i := 1) rfl (o := 0) rfl
    have hpl2 := (HS4.box (i := 1) rfl).2.1
    replace HS4 := Lib.hid HS4
    clear hw3 HS3 d0 d1 d2 e2 hix
    go_wp2_with fail
    refine wp_region_tail_lit (S := (fun w' => w'.cell? ⟨p, 0, none⟩ = some (.slice A M.length c) ∧ w'.cell? ⟨w.heap.size, 0, none⟩ = some (.int .i64 k) ∧ w'.cell? ⟨w.heap.size, 1, none⟩ = some (.int .i64 a) ∧ w'.cell? ⟨w.heap.size, 2, none⟩ = some (.int .i64 b))) 8 [false, false, false, false, false, false, false, false, false, false, false] (by kernel_rfl) (by kernel_rfl) (by kernel_rfl) ?_ ?_
    · exact ⟨g2, f0, f1, f2⟩
    intro hS
    (refine walkT_take (i := 0) (v := ?_) rfl (by kernel_rfl) (by decide) (by kernel_rfl) (by kernel_rfl) (fun _ _ _ h => h) (Or.inl ⟨by rfl, ?_⟩) (by assumption) ?_; rotate_left; (focus (intro w hSw; (try dsimp only at hSw); go_simp; (try with_reducible rfl); done)); (try simp only [put_rules]))
    (refine walkT_take (i := 1) (v := ?_) rfl (by kernel_rfl) (by decide) (by kernel_rfl) (by kernel_rfl) (fun _ _ _ h => h) (Or.inl ⟨by rfl, ?_⟩) (by assumption) ?_; rotate_left; (focus (intro w hSw; (try dsimp only at hSw); go_simp; (try with_reducible rfl); done)); (try simp only [put_rules]))
    (refine walkT_take (i := 2) (v := ?_) rfl (by kernel_rfl) (by decide) (by kernel_rfl) (by kernel_rfl) (fun _ _ _ h => h) (Or.inl ⟨by rfl, ?_⟩) (by assumption) ?_; rotate_left; (focus (intro w hSw; (try dsimp only at hSw); go_simp; (try with_reducible rfl); done)); (try simp only [put_rules]))
    (refine walkT_take (i := 3) (v := ?_) rfl (by kernel_rfl) (by decide) (by kernel_rfl) (by kernel_rfl) (fun _ _ _ h => h) (Or.inl ⟨by rfl, ?_⟩) (by assumption) ?_; rotate_left; (focus (intro w hSw; (try dsimp only at hSw); go_simp; (try with_reducible rfl); done)); (try simp only [put_rules]))
    (refine walkT_take (i := 4) (v := ?_) rfl (by kernel_rfl) (by decide) (by kernel_rfl) (by kernel_rfl) (fun _ _ _ h => h) (Or.inl ⟨by rfl, ?_⟩) (by assumption) ?_; rotate_left; (focus (intro w hSw; (try dsimp only at hSw); go_simp; (try with_reducible rfl); done)); (try simp only [put_rules]))
    (refine walkT_take (i := 5) (v := ?_) rfl (by kernel_rfl) (by decide) (by kernel_rfl) (by kernel_rfl) (fun _ _ _ h => h) (Or.inl ⟨by rfl, ?_⟩) (by assumption) ?_; rotate_left; (focus (intro w hSw; (try dsimp only at hSw); go_simp; (try with_reducible rfl); done)); (try simp only [put_rules]))
    (refine walkT_ready (rs := [6]) (by kernel_rfl) (by simp) (by decide) ?_; refine AllT.cons rfl (fun K hK => ?_) AllT.nil)
    go_simp
    have S5 := HS4.out.alloc_box #[.int .i64 k, .int .i64 a, .int .i64 b] 41
    replace S5 := Lib.hid S5
    refine hK.out _ _ ?_ (fun _ => ?_)
    · exact ⟨S5.out.cell (i := 2) rfl (o := 0) rfl, S5.out.cell (i := 1) rfl (o := 0) rfl, S5.out.cell (i := 1) rfl (o := 1) rfl, S5.out.cell (i := 1) rfl (o := 2) rfl⟩
    clear hK HS4
    (try simp only [put_rules])
    (refine walkT_ready (rs := [7]) (by kernel_rfl) (by simp) (by decide) ?_; refine AllT.cons rfl (fun K hK => ?_) AllT.nil)
    (refine step_append_src rfl _ _ rfl Try.underlying28 hi0 hz0 hz1 hz2 rfl (by decide) _ M.length _ rfl (S5.out.own (i := 3) rfl) _ 1 1 [.int .i64 k, .int .i64 a, .int .i64 b] rfl (Src.threeG (S5.out.cell (i := 0) rfl (o := 0) rfl) (S5.out.cell (i := 0) rfl (o := 1) rfl) (S5.out.cell (i := 0) rfl (o := 2) rfl)) (by simp [Value.oneCell']) (by unfold maxLen; omega) (by omega) ?_; intro vE wE hownE hgE hatE)
    have S6 := S5.out.drew.own_push (i := 3) rfl (bb _) hownE hgE hatE
    obtain ⟨aE, cE, rfl⟩ := own_slice hownE
    refine hK.out _ _ ?_ (fun _ => ?_)
    · exact ⟨S6.cell (i := 2) rfl (o := 0) rfl, S6.cell (i := 1) rfl (o := 0) rfl, S6.cell (i := 1) rfl (o := 1) rfl, S6.cell (i := 1) rfl (o := 2) rfl⟩
    clear hK S5 hownE hgE hatE
    have hfz := S6.frozen (i := 2) rfl 0
    have hc6 := S6.cell (i := 2) rfl (o := 0) rfl
    have S7 := Lib.hid ((S6.store (i := 2) rfl 0 (.slice aE (M.length + 1) cE)).tail).tail
    clear S6
    (try simp only [put_rules])
    (refine walkT_done (by kernel_rfl) ?_)
    simp only [List.drop_succ_cons, List.drop_zero]
    go_wp2_with fail
    go_ret
    refine ⟨ret_int (by rw [hid.out]), .slice aE (M.length + 1) cE, ?_⟩
    rw [hid.out]
    unfold FoldSp
    rw [List.length_append, List.flatMap_append]
    exact S7.out
end Go.Proofs.Ytkhopkonddgicaa

/- Contracts: the gates that a gate asks; a gate with other numbers. -/
namespace Go.Proofs.Ytkhopkonddgicaa
open Go.RowKit

/-- A function of numbers that only reads, at these arguments. -/
def NumFn (w0 : World) (f : FuncId) (cb : Array Value) (ks : List Nat) (φ : Nat → Nat) : Prop :=
  ∀ k ∈ ks, ∀ W, Below w0.heap.size w0 W → Calls Try.prog f (#[.int .i64 k] ++ cb) W fun e w' => e = .returned (.int .i64 (φ k : Nat)) ∧ Below W.heap.size W w'

set_option maxRecDepth 100000 in
set_option maxHeartbeats 8000000 in
theorem moved_any {f : FuncId} {cb : Array Value} (eg : Enter1 f) (φ : Nat → Nat) (g : Gt) (hg0 : ∀ k ∈ insG g, k ≤ 1000000) (ha : 0 ≤ g.a) (hb : 0 ≤ g.b) (w : World) (hf : NumFn w f cb (insG g) φ) :
    Calls Try.prog 51 #[gtV g, .func (.func f) #[] cb] w fun e w' => e = .returned (gtV (mvG φ g)) ∧ Below w.heap.size w w' := by
  obtain ⟨k, a', b'⟩ := g
  obtain ⟨a, rfl⟩ : ∃ a : Nat, a' = a := ⟨a'.toNat, by dsimp only at ha; omega⟩
  obtain ⟨b, rfl⟩ : ∃ b : Nat, b' = b := ⟨b'.toNat, by dsimp only at hb; omega⟩
  unfold Enter1 at eg
  have S0 := ((Sp.start w).alloc_box #[.int .i64 k, .int .i64 (a : Int), .int .i64 (b : Int)] 41).alloc_box #[.int .i64 0, .int .i64 0, .int .i64 0] 41
  simp only [World.size_alloc] at S0
  by_cases h4 : k = 4
  · subst h4
    have hM : mvG φ ⟨4, (a : Int), (b : Int)⟩ = ⟨4, (φ a : Nat), (b : Int)⟩ := by simp [mvG]
    have hc := Lib.hid (hf a (by simp [insG]) _ S0.below)
    replace S0 := Lib.hid S0
    rw [hM]
    clear hM hf hg0 ha hb
    go_enter Try.func51, Try.ntmps51
    go_wp2_with fail
    refine hc.out.mono ?_
    rintro e w1 ⟨rfl, hb1⟩
    have S1 := S0.out.grow hb1
    have c1 := S1.cell (i := 1) rfl (o := 1) rfl
    have v1 := S1.frozen (i := 1) rfl 1
    have S2 := S1.store (i := 1) rfl 1 (.int .i64 (φ a : Nat))
    have d0 := S2.cell (i := 1) rfl (o := 0) rfl
    have d1 := S2.cell (i := 1) rfl (o := 1) rfl
    have d2 := S2.cell (i := 1) rfl (o := 2) rfl
    have e0 := S2.cell (i := 0) rfl (o := 0) rfl
    have e1 := S2.cell (i := 0) rfl (o := 1) rfl
    have e2 := S2.cell (i := 0) rfl (o := 2) rfl
    have u0 := S2.frozen (i := 0) rfl 0
    have u1 := S2.frozen (i := 0) rfl 1
    have u2 := S2.frozen (i := 0) rfl 2
    have S3 := ((S2.store (i := 0) rfl 0 (.int .i64 4)).store (i := 0) rfl 1 (.int .i64 (φ a : Nat))).store (i := 0) rfl 2 (.int .i64 b)
    have j0 := S3.cell (i := 0) rfl (o := 0) rfl
    have j1 := S3.cell (i := 0) rfl (o := 1) rfl
    have j2 := S3.cell (i := 0) rfl (o := 2) rfl
    have hB := S3.below
    clear S0 S1 S2 S3 hc hb1
    go_wp2_with fail
    exact bodyPost_ret (v := gtV ⟨4, (φ a : Nat), (b : Int)⟩) (by simp [results, Try.results51, go_sem, j0, j1, j2]) rfl ⟨rfl, hB⟩
  by_cases h5 : k = 5 ∨ k = 6
  · have hM : mvG φ ⟨k, (a : Int), (b : Int)⟩ = ⟨k, (φ a : Nat), (φ b : Nat)⟩ := by simp [mvG, h4, h5]
    have hc := Lib.hid (hf a (by simp [insG, h4, h5]) _ S0.below)
    have hc2 := Lib.hid (fun W h => hf b (by simp [insG, h4, h5]) W h)
    replace S0 := Lib.hid S0
    rw [hM]
    clear hM hf hg0 ha hb h4
    rcases h5 with rfl | rfl
    · go_enter Try.func51, Try.ntmps51
      go_wp2_with fail
      refine hc.out.mono ?_
      rintro e w1 ⟨rfl, hb1⟩
      have S1 := S0.out.grow hb1
      have c1 := S1.cell (i := 1) rfl (o := 1) rfl
      have v1 := S1.frozen (i := 1) rfl 1
      have S2 := S1.store (i := 1) rfl 1 (.int .i64 (φ a : Nat))
      have c2 := S2.cell (i := 1) rfl (o := 2) rfl
      have hc3 := Lib.hid (hc2.out _ S2.below)
      replace S2 := Lib.hid S2
      clear S0 S1 hc hb1 hc2
      go_wp2_with fail
      refine hc3.out.mono ?_
      rintro e w2 ⟨rfl, hb2⟩
      have S3 := S2.out.grow hb2
      have c3 := S3.cell (i := 1) rfl (o := 2) rfl
      have v3 := S3.frozen (i := 1) rfl 2
      have S4 := S3.store (i := 1) rfl 2 (.int .i64 (φ b : Nat))
      have d0 := S4.cell (i := 1) rfl (o := 0) rfl
      have d1 := S4.cell (i := 1) rfl (o := 1) rfl
      have d2 := S4.cell (i := 1) rfl (o := 2) rfl
      have e0 := S4.cell (i := 0) rfl (o := 0) rfl
      have e1 := S4.cell (i := 0) rfl (o := 1) rfl
      have e2 := S4.cell (i := 0) rfl (o := 2) rfl
      have u0 := S4.frozen (i := 0) rfl 0
      have u1 := S4.frozen (i := 0) rfl 1
      have u2 := S4.frozen (i := 0) rfl 2
      have S5 := ((S4.store (i := 0) rfl 0 (.int .i64 5)).store (i := 0) rfl 1 (.int .i64 (φ a : Nat))).store (i := 0) rfl 2 (.int .i64 (φ b : Nat))
      have j0 := S5.cell (i := 0) rfl (o := 0) rfl
      have j1 := S5.cell (i := 0) rfl (o := 1) rfl
      have j2 := S5.cell (i := 0) rfl (o := 2) rfl
      have hB := S5.below
      clear S2 S3 S4 S5 hc3 hb2
      go_wp2_with fail
      exact bodyPost_ret (v := gtV ⟨5, (φ a : Nat), (φ b : Nat)⟩) (by simp [results, Try.results51, go_sem, j0, j1, j2]) rfl ⟨rfl, hB⟩
    · go_enter Try.func51, Try.ntmps51
      go_wp2_with fail
      refine hc.out.mono ?_
      rintro e w1 ⟨rfl, hb1⟩
      have S1 := S0.out.grow hb1
      have c1 := S1.cell (i := 1) rfl (o := 1) rfl
      have v1 := S1.frozen (i := 1) rfl 1
      have S2 := S1.store (i := 1) rfl 1 (.int .i64 (φ a : Nat))
      have c2 := S2.cell (i := 1) rfl (o := 2) rfl
      have hc3 := Lib.hid (hc2.out _ S2.below)
      replace S2 := Lib.hid S2
      clear S0 S1 hc hb1 hc2
      go_wp2_with fail
      refine hc3.out.mono ?_
      rintro e w2 ⟨rfl, hb2⟩
      have S3 := S2.out.grow hb2
      have c3 := S3.cell (i := 1) rfl (o := 2) rfl
      have v3 := S3.frozen (i := 1) rfl 2
      have S4 := S3.store (i := 1) rfl 2 (.int .i64 (φ b : Nat))
      have d0 := S4.cell (i := 1) rfl (o := 0) rfl
      have d1 := S4.cell (i := 1) rfl (o := 1) rfl
      have d2 := S4.cell (i := 1) rfl (o := 2) rfl
      have e0 := S4.cell (i := 0) rfl (o := 0) rfl
      have e1 := S4.cell (i := 0) rfl (o := 1) rfl
      have e2 := S4.cell (i := 0) rfl (o := 2) rfl
      have u0 := S4.frozen (i := 0) rfl 0
      have u1 := S4.frozen (i := 0) rfl 1
      have u2 := S4.frozen (i := 0) rfl 2
      have S5 := ((S4.store (i := 0) rfl 0 (.int .i64 6)).store (i := 0) rfl 1 (.int .i64 (φ a : Nat))).store (i := 0) rfl 2 (.int .i64 (φ b : Nat))
      have j0 := S5.cell (i := 0) rfl (o := 0) rfl
      have j1 := S5.cell (i := 0) rfl (o := 1) rfl
      have j2 := S5.cell (i := 0) rfl (o := 2) rfl
      have hB := S5.below
      clear S2 S3 S4 S5 hc3 hb2
      go_wp2_with fail
      exact bodyPost_ret (v := gtV ⟨6, (φ a : Nat), (φ b : Nat)⟩) (by simp [results, Try.results51, go_sem, j0, j1, j2]) rfl ⟨rfl, hB⟩
  · have hM : mvG φ ⟨k, (a : Int), (b : Int)⟩ = ⟨k, (a : Int), (b : Int)⟩ := by simp [mvG, h4, h5]
    have h5' : k ≠ 5 := fun e => h5 (.inl e)
    have h6' : k ≠ 6 := fun e => h5 (.inr e)
    rw [hM]
    clear hM hf hg0 ha hb h5
    have S5 := ((Sp.start w).alloc_box #[.int .i64 k, .int .i64 (a : Int), .int .i64 (b : Int)] 41).alloc_box #[.int .i64 k, .int .i64 (a : Int), .int .i64 (b : Int)] 41
    simp only [World.size_alloc] at S5
    have j0 := S5.cell (i := 0) rfl (o := 0) rfl
    have j1 := S5.cell (i := 0) rfl (o := 1) rfl
    have j2 := S5.cell (i := 0) rfl (o := 2) rfl
    have hB := S5.below
    clear S0 S5
    go_enter Try.func51, Try.ntmps51
    go_wp2_with fail
    exact bodyPost_ret (v := gtV ⟨k, (a : Int), (b : Int)⟩) (by simp [results, Try.results51, go_sem, j0, j1, j2]) rfl ⟨rfl, hB⟩

end Go.Proofs.Ytkhopkonddgicaa

/- Contract: the trimmed circuit. -/
namespace Go.Proofs.Ytkhopkonddgicaa
open Go.RowKit

theorem Sp.intsN {w0 w : World} {ps : List Asn} {i n : Nat} {A : Option Addr} {l : List Nat} {c : Nat} {e : TypeId} (h : Sp w0 w ps) (hi : ps[i]? = some (Own e 1 (.slice A n c) n ((natI l).map (.int .i64)))) (hn : l.length = n) (hok : ∀ x ∈ l, x ≤ 1000000) : IntsAt w A (natI l) := by
  rw [← hn, ← natI_len] at hi
  obtain ⟨A', c', e1, hI⟩ := ints_own (h.own hi) (fun x hx => by
    obtain ⟨y, hy, rfl⟩ := List.mem_map.1 hx
    have := hok y hy
    unfold I64
    omega)
  cases e1
  exact hI
theorem trim_len (gs : List Gt) (need : List Nat) : (trimG gs need).length = need.length := by simp [trimG]
/-- The gates that a trimmed circuit needs are few. -/
theorem needL_len {vars : Int} {gs : List Gt} (hg : OkG vars gs) (hp : 0 < gs.length) : (needL gs).length ≤ gs.length := asc_len (need_needs hg hp).1.asc (fun x hx => (need_needs hg hp).1.lt x hx)

set_option maxRecDepth 100000 in
set_option maxHeartbeats 8000000 in
theorem trim_any {vars : Int} (A : Option Addr) (c : Nat) (gs : List Gt) (w : World) (hx : GtAt w A gs) (hg : OkG vars gs) (hp : 0 < gs.length) (hl : gs.length ≤ 1000) (hv : vars ≤ 1000) :
    Calls Try.prog 55 #[.slice A gs.length c] w fun e w' => ∃ v, e = .returned v ∧ Sp w w' [Own 41 3 v (trimG gs (needL gs)).length ((trimG gs (needL gs)).flatMap gtEnc)] := by
  obtain ⟨i0, hi0, hz0, hz1, hz2⟩ := info_parts infoGt
  have hcall := Lib.hid (needed_any A c gs w hx hg hp hl hv)
  have hN := Lib.hid (need_needs hg hp).1
  have hnl := needL_len hg hp
  have eg : Enter1 90 := enters_of Try.func90 (by kernel_rfl) rfl
  generalize needL gs = need at hcall hN hnl ⊢
  have hX := Lib.hid hx
  replace hg := Lib.hid hg
  replace eg := Lib.hid eg
  clear hx
  obtain ⟨n, hn⟩ : ∃ n, need.length = n := ⟨_, rfl⟩
  rw [hn] at hcall hnl
  replace hn := Lib.hid hn
  go_enter Try.func55, Try.ntmps55
  go_wp2_with fail
  refine hcall.out.mono ?_
  rintro e w1 ⟨v, rfl, S1⟩
  obtain ⟨aN, cN, rfl⟩ := own_slice (S1.own (i := 0) rfl)
  have S2 := (S1.alloc_box #[.slice aN n cN] 45).own_nil 41 3
  have c0 := S2.cell (i := 1) rfl (o := 0) rfl
  replace S2 := Lib.hid S2
  clear hcall S1
  go_wp2_with fail
  go_loopw [11, 4] (fun i o wr => ∃ (q : Nat) (ov : Value), q ≤ n ∧ i = .int .i64 q ∧ o = ov ∧ Hid (Sp w wr [Own 41 3 ov q (((trimG gs need).take q).flatMap gtEnc), Box w1.heap.size 45 #[.slice aN n cN], Own 3 1 (.slice aN n cN) n ((natI need).map (.int .i64))])) (fun i _ _ => n - (intOf i).toNat)
  case atStart => exact ⟨0, _, Nat.zero_le _, rfl, rfl, by simpa using S2⟩
  case round =>
    obtain ⟨q, ov, hq, rfl, rfl, hS⟩ := hrel
    by_cases hlt : q < n
    · have hqi : (q : Int) < n := by omega
      have hX2 := hX.out.grow hS.out.below
      have hI := hS.out.intsN (i := 2) rfl hn.out (fun x hx => by have := hN.out.lt x hx; omega)
      have hql : q < need.length := by rw [hn.out]; exact hlt
      obtain ⟨b, off, e, hc⟩ := hI.at_ q (by rw [natI_len]; exact hql)
      cases e
      have hv2 : (natI need)[q]'(by rw [natI_len]; exact hql) = ((need[q] : Nat) : Int) := by simp [natI]
      rw [hv2] at hc
      have hxl := hN.out.lt _ (List.getElem_mem hql)
      have hins := hN.out.ins _ (List.getElem_mem hql)
      have htk : (trimG gs need).take (q + 1) = (trimG gs need).take q ++ [mvG (fun k => need.idxOf k) (gs.getD need[q] ⟨0, 0, 0⟩)] := by
        rw [List.take_succ_eq_append_getElem (by rw [trim_len]; exact hql), trim_get (by rw [trim_len]; exact hql) hql]
      have htl : ((trimG gs need).take q).length = q := by rw [List.length_take, trim_len]; omega
      generalize need[q] = x at hc hxl hins htk
      have hxi : (x : Int) < gs.length := by omega
      obtain ⟨bg, og, e, m0, m1, m2⟩ := hX2.at_ x hxl
      cases e
      have hd : gs.getD x ⟨0, 0, 0⟩ = gs[x] := by rw [List.getD_eq_getElem?_getD, List.getElem?_eq_getElem hxl]; rfl
      have hgx := gtB_iff.1 (hg.out x hxl)
      have hlt2 := ins_lt (hg.out x hxl)
      rw [hd] at hins htk
      generalize gs[x] = g at m0 m1 m2 hins htk hgx hlt2
      have c1 := hS.out.cell (i := 1) rfl (o := 0) rfl
      have hmv := Lib.hid (moved_any (cb := #[.pointer (some ⟨w1.heap.size, 0, none⟩)]) eg.out (fun k => need.idxOf k) g (fun k hk => by have := hlt2 k hk; omega) (by omega) (by omega) wr (fun k hk W hW => trimLook_any w1.heap.size k cN _ need (hins k hk) (by rw [hn.out]; omega) W (by rw [hn.out]; exact (hW.cell (p := ⟨w1.heap.size, 0, none⟩) (hS.out.box (i := 1) rfl).2.1).trans c1) (hI.grow hW)))
      generalize mvG (fun k => need.idxOf k) g = z at hmv htk
      obtain ⟨gk, ga, gb⟩ := g
      obtain ⟨zk, za, zb⟩ := z
      replace htk := Lib.hid htk
      replace htl := Lib.hid htl
      dsimp only at m0 m1 m2
      clear hd hgx hlt2 hins hX2 hI hv2 hql S2 c0
      go_wp2_with fail
      refine hmv.out.mono ?_
      rintro e w2 ⟨rfl, hb2⟩
      have S5 := (hS.out.grow hb2).alloc_box #[.int .i64 zk, .int .i64 za, .int .i64 zb] 41
      have k0 := S5.cell (i := 0) rfl (o := 0) rfl
      have k1 := S5.cell (i := 0) rfl (o := 1) rfl
      have k2 := S5.cell (i := 0) rfl (o := 2) rfl
      replace S5 := Lib.hid S5
      clear hmv hS hb2 m0 m1 m2 c1 hc
      go_wp2_with (at_builtin; refine wpList_append_src rfl _ _ rfl Try.underlying28 hi0 hz0 hz1 hz2 rfl (by decide) _ q _ rfl (S5.out.own (i := 1) rfl) _ 1 1 [.int .i64 zk, .int .i64 za, .int .i64 zb] rfl (Src.threeG k0 k1 k2) (by simp [Value.oneCell']) ?c3 ?c4 ?_)
      case c3 => unfold maxLen; omega
      case c4 => omega
      intro vE wE hownE hgE hatE
      have S6 := Lib.hid ((S5.out.own_push (i := 1) rfl (bb _) hownE hgE (by simpa using hatE)).tail)
      clear S5 hownE hgE hatE k0 k1 k2
      go_wp2_with fail
      go_roundw
      case rel =>
        refine ⟨q + 1, vE, by omega, by first | rfl | simp, rfl, ?_⟩
        unfold Hid
        rw [htk.out, List.flatMap_append]
        exact S6.out
      case measure => simp [intOf]; omega
    · obtain rfl : q = n := by omega
      go_wp2_with fail
      go_ret
      refine ⟨_, rfl, ?_⟩
      have h := hS.out.pick [0] rfl
      rw [List.take_of_length_le (by rw [trim_len, hn.out]; omega)] at h
      rw [trim_len, hn.out]
      exact h
end Go.Proofs.Ytkhopkonddgicaa

/- Contract: a gate of two others is folded. -/
namespace Go.Proofs.Ytkhopkonddgicaa
open Go.RowKit

set_option maxRecDepth 100000 in
set_option maxHeartbeats 8000000 in
theorem pair_any {w0 : World} {ps : List Asn} (p : Nat) (sv : Value) (M : List Gt) (g : Gt) (d n : Int) (w : World) (hok : ∀ x ∈ M, gtOk x) (hl : M.length ≤ 1000) (ha : 0 ≤ g.a ∧ g.a < M.length) (hb : 0 ≤ g.b ∧ g.b < M.length) (HS : FoldSp w0 p sv M ps w) :
    Calls Try.prog 114 #[.pointer (some ⟨p, 0, none⟩), gtV g, .int .i64 d, .int .i64 n] w fun e w' => ∃ sv', e = .returned (.int .i64 ((pairG M g d n).2 : Nat)) ∧ FoldSp w0 p sv' (pairG M g d n).1 ps w' := by
  obtain ⟨k, a', b'⟩ := g
  dsimp only at ha hb
  obtain ⟨a, rfl⟩ : ∃ a : Nat, a' = a := ⟨a'.toNat, by omega⟩
  obtain ⟨b, rfl⟩ : ∃ b : Nat, b' = b := ⟨b'.toNat, by omega⟩
  obtain ⟨A, c, rfl, hN⟩ := gt_own (HS.own (i := 1) rfl) hok
  have S3 := HS.alloc_box #[.int .i64 k, .int .i64 (a : Int), .int .i64 (b : Int)] 41
  have hN3 := hN.grow (bal (bb w) (.cells #[.int .i64 k, .int .i64 (a : Int), .int .i64 (b : Int)] 41))
  obtain ⟨gb, off, rfl, m0, -, -⟩ := hN3.at_ a (by omega)
  obtain ⟨gb2, off2, e, n0, -, -⟩ := hN3.at_ b (by omega)
  cases e
  have hka : kindG M (a : Int) = M[a].k := kind_at (i := (a : Int)) (by omega)
  have hkb : kindG M (b : Int) = M[b].k := kind_at (i := (b : Int)) (by omega)
  rw [← hka] at m0
  rw [← hkb] at n0
  have hP : Hid (pairG M ⟨k, (a : Int), (b : Int)⟩ d n = if kindG M (a : Int) = d then (M, a) else if kindG M (b : Int) = d then (M, b) else if kindG M (a : Int) = n then (M, b) else if kindG M (b : Int) = n ∨ (a : Int) = b then (M, a) else keepG M ⟨k, (a : Int), (b : Int)⟩) := rfl
  generalize kindG M (a : Int) = x at *
  generalize kindG M (b : Int) = y at *
  have k0 := cell_regrown m0
  have k1 := cell_regrown n0
  have d1 := cell_regrown (S3.cell (i := 0) rfl (o := 1) rfl)
  have d2 := cell_regrown (S3.cell (i := 0) rfl (o := 2) rfl)
  have e2 := cell_regrown (S3.cell (i := 1) rfl (o := 0) rfl)
  have hal : (a : Int) < M.length := ha.2
  have hbl : (b : Int) < M.length := hb.2
  have hkeep := Lib.hid (fun W (h : FoldSp w0 p (.slice (some ⟨gb, off, none⟩) M.length c) M ps W) => keep_any p _ M ⟨k, (a : Int), (b : Int)⟩ W hok hl h)
  have HS3 := Lib.hid S3
  clear S3 hN hN3 HS m0 n0 hka hkb ha hb hok
  go_enter Try.func114, Try.ntmps114
  go_wp2_with fail
  refine wp_region_quiet_below (by kernel_rfl) (by kernel_rfl) ?_
  repeat (any_goals (go_big_quiet_step (fail)))
  refine wpQuiet_nil ?_
  rintro w3 ⟨pp, hw3⟩
  have HS4 := HS3.out.grow (w' := w3) (hw3 ▸ below_regrown _ pp.d pp.os)
  have f0 := HS4.cell (i := 0) rfl (o := 0) rfl
  have f1 := HS4.cell (i := 0) rfl (o := 1) rfl
  have f2 := HS4.cell (i := 0) rfl (o := 2) rfl
  replace HS4 := Lib.hid HS4.tail
  have hkp := Lib.hid (hkeep.out _ HS4.out)
  clear hw3 HS3 k0 k1 d1 d2 e2 hkeep
  by_cases h1 : x = d
  · have hR : Hid (pairG M ⟨k, (a : Int), (b : Int)⟩ d n = (M, a)) := by unfold Hid; rw [hP.out, if_pos h1]
    clear hP
    go_wp2_with fail
    go_ret
    first | exact ⟨ret_int (by rw [hR.out]), _, by rw [hR.out]; exact HS4.out⟩ | exact ⟨_, ret_int (by rw [hR.out]), by rw [hR.out]; exact HS4.out⟩
  by_cases h2 : y = d
  · have hR : Hid (pairG M ⟨k, (a : Int), (b : Int)⟩ d n = (M, b)) := by unfold Hid; rw [hP.out, if_neg h1, if_pos h2]
    clear hP
    go_wp2_with fail
    go_ret
    first | exact ⟨ret_int (by rw [hR.out]), _, by rw [hR.out]; exact HS4.out⟩ | exact ⟨_, ret_int (by rw [hR.out]), by rw [hR.out]; exact HS4.out⟩
  by_cases h3 : x = n
  · have hR : Hid (pairG M ⟨k, (a : Int), (b : Int)⟩ d n = (M, b)) := by unfold Hid; rw [hP.out, if_neg h1, if_neg h2, if_pos h3]
    clear hP
    go_wp2_with fail
    go_ret
    first | exact ⟨ret_int (by rw [hR.out]), _, by rw [hR.out]; exact HS4.out⟩ | exact ⟨_, ret_int (by rw [hR.out]), by rw [hR.out]; exact HS4.out⟩
  by_cases h4 : y = n
  · have hR : Hid (pairG M ⟨k, (a : Int), (b : Int)⟩ d n = (M, a)) := by unfold Hid; rw [hP.out, if_neg h1, if_neg h2, if_neg h3, if_pos (.inl h4)]
    clear hP
    go_wp2_with fail
    go_ret
    first | exact ⟨ret_int (by rw [hR.out]), _, by rw [hR.out]; exact HS4.out⟩ | exact ⟨_, ret_int (by rw [hR.out]), by rw [hR.out]; exact HS4.out⟩
  by_cases h5 : (a : Int) = b
  · have hR : Hid (pairG M ⟨k, (a : Int), (b : Int)⟩ d n = (M, a)) := by unfold Hid; rw [hP.out, if_neg h1, if_neg h2, if_neg h3, if_pos (.inr h5)]
    obtain rfl : a = b := by omega
    clear hP hkp
    go_wp2_with fail
    go_ret
    first | exact ⟨ret_int (by rw [hR.out]), _, by rw [hR.out]; exact HS4.out⟩ | exact ⟨_, ret_int (by rw [hR.out]), by rw [hR.out]; exact HS4.out⟩
  have hR : Hid (pairG M ⟨k, (a : Int), (b : Int)⟩ d n = keepG M ⟨k, (a : Int), (b : Int)⟩) := by unfold Hid; rw [hP.out, if_neg h1, if_neg h2, if_neg h3, if_neg (fun e => e.elim h4 h5)]
  clear hP
  rw [← hR.out] at hkp
  go_wp2_with fail
  refine hkp.out.mono ?_
  rintro e w5 ⟨sv', rfl, HS5⟩
  replace HS5 := Lib.hid HS5
  go_wp2_with fail
  go_ret
  first | exact ⟨rfl, sv', HS5.out⟩ | exact ⟨sv', rfl, HS5.out⟩
end Go.Proofs.Ytkhopkonddgicaa
