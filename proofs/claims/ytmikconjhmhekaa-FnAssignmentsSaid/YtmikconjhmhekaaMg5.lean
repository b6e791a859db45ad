/- Lemmas and contracts for a law, put together out of several texts: CoC MdR CoD RsA SdA SdB OwnS SdC CoE CoI SdD. -/
import Derived.Test.YtmikconjhmhekaaMg4
import Derived.Test.YtmikconjhmhekaaMg2
import Derived.Test.YtmikconjhmhekaaMg1
import Derived.Lib.SliceRun
import Derived.Lib.Hide
import Derived.Shelf.SlicesE.Kit
import Derived.Shelf.SlicesE.Delete
import Derived.Deep.QuietTactic
import Derived.BigQuiet
import Derived.Lib.QuietBelow
import Derived.Test.YtmikconjhmhekaaShelf
import Derived.Sort.OwnSortedInts
import Derived.Test.YtmikconjhmhekaaMg3
import Derived.Lib.SlicesCompact
import Derived.Lib.RowBridge
/- Cores without superfluous clauses: plain facts. -/
namespace Go.Proofs.Ytmikconjhmhekaa
open Go.RowKit

/-- Each index in turn is left out if the rest is still a core. -/
def coreGo (P : List Nat → Bool) : List Nat → List Nat → List Nat
  | kept, [] => kept
  | kept, i :: rest => if P (kept ++ rest) then coreGo P kept rest else coreGo P (kept ++ [i]) rest
theorem coreGo_yes {P : List Nat → Bool} {kept rest : List Nat} {i : Nat} (h : P (kept ++ rest) = true) : coreGo P kept (i :: rest) = coreGo P kept rest := by rw [coreGo, if_pos h]
theorem coreGo_no {P : List Nat → Bool} {kept rest : List Nat} {i : Nat} (h : P (kept ++ rest) = false) : coreGo P kept (i :: rest) = coreGo P (kept ++ [i]) rest := by rw [coreGo, if_neg (by rw [h]; decide)]
theorem skip_mid {kept rest : List Nat} {i : Nat} : (kept ++ i :: rest).eraseIdx kept.length = kept ++ rest := by
  rw [List.eraseIdx_append_of_length_le (Nat.le_refl _), Nat.sub_self]; rfl
/-- A list is ascending, within a range. -/
def AscN (m : Nat) (l : List Nat) : Prop := l.Pairwise (· < ·) ∧ ∀ i ∈ l, i < m
theorem AscN.sub {m : Nat} {l l' : List Nat} (h : AscN m l) (hs : l'.Sublist l) : AscN m l' := ⟨h.1.sublist hs, fun i hi => h.2 i (hs.subset hi)⟩
theorem coreGo_sub (P : List Nat → Bool) : ∀ (rest kept : List Nat), (coreGo P kept rest).Sublist (kept ++ rest)
  | [], kept => by rw [coreGo, List.append_nil]; exact List.Sublist.refl _
  | i :: rest, kept => by
    rw [coreGo]
    split
    · exact (coreGo_sub P rest kept).trans (List.Sublist.append_left (List.sublist_cons_self _ _) _)
    · have := coreGo_sub P rest (kept ++ [i])
      rwa [List.append_assoc] at this
theorem coreGo_kept (P : List Nat → Bool) : ∀ (rest kept : List Nat), ∃ t, coreGo P kept rest = kept ++ t ∧ t.Sublist rest
  | [], kept => ⟨[], by rw [coreGo, List.append_nil], List.Sublist.refl _⟩
  | i :: rest, kept => by
    rw [coreGo]
    split
    · obtain ⟨t, h1, h2⟩ := coreGo_kept P rest kept
      exact ⟨t, h1, h2.trans (List.sublist_cons_self _ _)⟩
    · obtain ⟨t, h1, h2⟩ := coreGo_kept P rest (kept ++ [i])
      exact ⟨i :: t, by rw [h1, List.append_assoc]; rfl, h2.cons_cons i⟩
/-- What is left is a core, if all was. -/
theorem coreGo_core {P : List Nat → Bool} : ∀ (rest kept : List Nat), P (kept ++ rest) = true → P (coreGo P kept rest) = true
  | [], kept, h => by rw [coreGo]; rwa [List.append_nil] at h
  | i :: rest, kept, h => by
    rw [coreGo]
    split
    · rename_i h2; exact coreGo_core rest kept h2
    · refine coreGo_core rest (kept ++ [i]) ?_
      rwa [List.append_assoc]
/-- None of what is left is superfluous. -/
theorem coreGo_min {P : List Nat → Bool} (hP : ∀ a b : List Nat, a.Sublist b → P a = true → P b = true) : ∀ (rest kept : List Nat), (∀ k, k < kept.length → ∀ t, t.Sublist rest → P (kept.eraseIdx k ++ t) = false) →
    ∀ k, k < (coreGo P kept rest).length → P ((coreGo P kept rest).eraseIdx k) = false
  | [], kept, h, k, hk => by
    rw [coreGo] at hk ⊢
    have := h k hk [] (List.Sublist.refl _)
    rwa [List.append_nil] at this
  | i :: rest, kept, h, k, hk => by
    rw [coreGo] at hk ⊢
    split
    · rename_i h2
      rw [if_pos h2] at hk
      exact coreGo_min hP rest kept (fun j hj t ht => h j hj t (ht.trans (List.sublist_cons_self _ _))) k hk
    · rename_i h2
      rw [if_neg h2] at hk
      refine coreGo_min hP rest (kept ++ [i]) (fun j hj t ht => ?_) k hk
      rw [List.length_append] at hj
      by_cases hjl : j < kept.length
      · rw [List.eraseIdx_append_of_lt_length hjl, List.append_assoc]
        exact h j hjl (i :: t) (ht.cons_cons i)
      · obtain rfl : j = kept.length := by simp at hj; omega
        rw [skip_mid (rest := []), List.append_nil]
        cases hb : P (kept ++ t)
        · rfl
        · exact absurd (hP _ _ (List.Sublist.append_left ht kept) hb) h2
theorem core_mono {n : Nat} {xss : List (List Int)} {a b : List Nat} (h : a.Sublist b) (ha : coreB n xss a = true) : coreB n xss b = true := by
  unfold coreB at *
  rw [Bool.not_eq_true', List.any_eq_false] at *
  intro m hm
  have h2 := ha m hm
  intro hb
  refine h2 ?_
  unfold modT pickC at *
  rw [List.all_eq_true] at *
  intro c hc
  obtain ⟨i, hi, rfl⟩ := List.mem_map.1 hc
  exact hb _ (List.mem_map.2 ⟨i, h.subset hi, rfl⟩)
theorem pick_range (xss : List (List Int)) : pickC xss (List.range xss.length) = xss := by
  unfold pickC
  apply List.ext_getElem
  · simp
  · intro i h1 h2
    simp [List.getD_eq_getElem?_getD, h2]
theorem core_all {n : Nat} {xss : List (List Int)} : coreB n xss (List.range xss.length) = !(List.range (2 ^ n)).any (modT xss) := by
  unfold coreB
  rw [pick_range]
theorem range_asc (m : Nat) : AscN m (List.range m) := ⟨List.pairwise_lt_range, fun _ hi => List.mem_range.1 hi⟩
end Go.Proofs.Ytmikconjhmhekaa

/- Contract: slices.DeleteFunc at an own row of numbers, with a function that may make memory. -/
namespace Go.Proofs.Ytmikconjhmhekaa
open Go.RowKit

theorem set_get {α : Type} {l : List α} {i : Nat} {q : α} (h : l[i]? = some q) : l.set i q = l := by
  apply List.ext_getElem?
  intro j
  rw [List.getElem?_set]
  split
  · rename_i e
    subst e
    have := (List.getElem?_eq_some_iff.1 h).1
    rw [if_pos this, h]
  · rfl
theorem set_at {α : Type} {l : List α} {i : Nat} {q : α} (h : l[i]? = some q) (p : α) : (l.set i p)[i]? = some p := by
  have := (List.getElem?_eq_some_iff.1 h).1
  rw [List.getElem?_set_self this]
theorem Sp.own_puts {w0 : World} {g cap n size : Nat} {e : TypeId} {i : Nat} : ∀ (us : List Value) (o : Nat) (w : World) (ps : List Asn) (xs : List Value), Sp w0 w ps → ps[i]? = some (Own e size (.slice (some ⟨g, 0, none⟩) n cap) n xs) → o + us.length ≤ n * size →
    ∃ xs', Sp w0 (w.setCells g o us) (ps.set i (Own e size (.slice (some ⟨g, 0, none⟩) n cap) n xs')) ∧ xs'.take o = xs.take o ∧ Chg [g] w (w.setCells g o us)
  | [], o, w, ps, xs, h, hi, _ => ⟨xs, by rw [set_get hi]; exact h, rfl, Chg.refl _ _⟩
  | u :: us, o, w, ps, xs, h, hi, hl => by
    have h1 := h.own_put hi u (o := o) (by simp at hl; omega)
    obtain ⟨xs', h2, h3, h4⟩ := Sp.own_puts us (o + 1) _ _ _ h1 (set_at hi _) (by simp at hl; omega)
    refine ⟨xs', by rw [World.setCells]; rwa [List.set_set] at h2, ?_, by rw [World.setCells]; exact ((Chg.refl [g] w).set (p := ⟨g, o, none⟩) (by simp) u).trans h4⟩
    have := congrArg (List.take o) h3
    rw [List.take_take, List.take_take, Nat.min_eq_left (by omega)] at this
    rw [this, List.take_set_of_le (Nat.le_refl _)]
theorem Sp.own_cut {w0 w : World} {g cap n m : Nat} {e : TypeId} {i : Nat} {ps : List Asn} {xs : List Value} (h : Sp w0 w ps) (hi : ps[i]? = some (Own e 1 (.slice (some ⟨g, 0, none⟩) n cap) n xs)) (hm : m ≤ n) : Sp w0 w (ps.set i (Own e 1 (.slice (some ⟨g, 0, none⟩) m cap) m (xs.take m))) := by
  obtain ⟨F, ⟨rfl, hl, hh⟩, hF, hall⟩ := h.upd hi
  refine hall _ _ [g] (Chg.refl _ _) ⟨rfl, by rw [List.length_take, hl]; omega, .inr ?_⟩ (fun b hb => .inl hb)
  rcases hh with ⟨h1, _⟩ | ⟨g', cap', cur, e1, h0, hg, hn, hmx, hc, ht⟩
  · cases h1
  · simp only [Value.slice.injEq, Option.some.injEq, Addr.mk.injEq] at e1
    obtain ⟨⟨rfl, _⟩, _, rfl⟩ := e1
    refine ⟨g, cap, cur, rfl, Nat.zero_le _, hg, by omega, hmx, hc, ?_⟩
    rw [← ht, List.take_take, Nat.mul_one, Nat.mul_one, Nat.min_eq_left hm]
/-- The state of DeleteFunc's loop: i kept elements stand ahead, from j on nothing has turned. -/
def DelInv (p : Int → Bool) (xs : List Int) (i j : Nat) (ys : List Value) : Prop :=
  i < j ∧ ys.length = xs.length ∧ ys.take i = ((xs.take j).filter fun x => !p x).map (.int .i64) ∧ i = ((xs.take j).filter fun x => !p x).length ∧ ∀ k, j ≤ k → ys[k]? = (xs.map (Value.int .i64))[k]?
theorem DelInv.start {p : Int → Bool} {xs : List Int} {k : Nat} (hk : k < xs.length) (h1 : p xs[k] = true) (h0 : (xs.take k).any p = false) : DelInv p xs k (k + 1) (xs.map (.int .i64)) := by
  have hf : ((xs.take (k + 1)).filter fun x => !p x) = xs.take k := by
    rw [List.take_succ_eq_append_getElem hk, List.filter_append, List.filter_eq_self.2]
    · simp [h1]
    · intro x hx
      have := List.any_eq_false.1 h0 x hx
      simpa using this
  exact ⟨by omega, by simp, by rw [hf, List.map_take], by rw [hf, List.length_take]; omega, fun _ _ => rfl⟩
theorem DelInv.keep {p : Int → Bool} {xs : List Int} {i j : Nat} {ys : List Value} (h : DelInv p xs i j ys) (hj : j < xs.length) (h1 : p xs[j] = false) : DelInv p xs (i + 1) (j + 1) (ys.set i (.int .i64 xs[j])) := by
  obtain ⟨a1, a2, a3, a4, a5⟩ := h
  have hf : ((xs.take (j + 1)).filter fun x => !p x) = ((xs.take j).filter fun x => !p x) ++ [xs[j]] := by
    rw [List.take_succ_eq_append_getElem hj, List.filter_append]
    simp [h1]
  refine ⟨by omega, by simp [a2], ?_, by rw [hf]; simp [← a4], fun k hk => ?_⟩
  · rw [hf, List.map_append, ← a3, List.take_succ_eq_append_getElem (by simp; omega), List.take_set_of_le (Nat.le_refl _)]
    simp
  · rw [List.getElem?_set_ne (by omega)]
    exact a5 k (by omega)
theorem DelInv.skip {p : Int → Bool} {xs : List Int} {i j : Nat} {ys : List Value} (h : DelInv p xs i j ys) (hj : j < xs.length) (h1 : p xs[j] = true) : DelInv p xs i (j + 1) ys := by
  obtain ⟨a1, a2, a3, a4, a5⟩ := h
  have hf : ((xs.take (j + 1)).filter fun x => !p x) = ((xs.take j).filter fun x => !p x) := by
    rw [List.take_succ_eq_append_getElem hj, List.filter_append]
    simp [h1]
  exact ⟨by omega, a2, by rw [hf]; exact a3, by rw [hf]; exact a4, fun k hk => a5 k (by omega)⟩

set_option maxRecDepth 100000 in
set_option maxHeartbeats 4000000 in
theorem deleteFuncI_any {g : FuncId} {cb : Array Value} {p : Int → Bool} {R : Int → Prop} (eg : Enter1 g) (xs : List Int) (B : Option Addr) (cc : Nat) (w0 w : World) (ps : List Asn)
    (S : Sp w0 w (Own 3 1 (.slice B xs.length cc) xs.length (xs.map (.int .i64)) :: ps)) (hI : ∀ x ∈ xs, I64 x) (hl : xs.length ≤ 1000000) (hR : ∀ x ∈ xs, R x)
    (hf : ∀ (x : Int) (ys : List Value) (W : World), R x → Sp w0 W (Own 3 1 (.slice B xs.length cc) xs.length ys :: ps) → Calls Try.prog g (#[.int .i64 x] ++ cb) W fun e w' => e = .returned (.bool (p x)) ∧ Below W.heap.size W w') :
    Calls Try.prog 93 #[.slice B xs.length cc, .func (.func g) #[] cb] w fun e w' => e = .returned (.slice B (xs.filter fun x => !p x).length cc) ∧
      Sp w0 w' (Own 3 1 (.slice B (xs.filter fun x => !p x).length cc) (xs.filter fun x => !p x).length ((xs.filter fun x => !p x).map (.int .i64)) :: ps) ∧ Chg (Value.slice B xs.length cc).ownBlock.toList w w' := by
  have hF : FnI R w g cb p := fun x W hx hb => hf x _ W hx (S.grow hb)
  obtain ⟨A, c, e1, hIn⟩ := ints_own (S.own (i := 0) rfl) hI
  cases e1
  have hix := Lib.hid (indexFuncI_any eg xs B cc w hIn hl hR hF)
  have eg2 := eg
  unfold Enter1 at eg2
  clear hIn hF
  cases hq : xs.any p
  · have hid : idxP p xs = -1 := by unfold idxP; rw [hq]; rfl
    have hfx : (xs.filter fun x => !p x) = xs := by
      rw [List.filter_eq_self]
      intro x hx
      have := List.any_eq_false.1 hq x hx
      simpa using this
    rw [hid] at hix
    rw [hfx]
    replace S := Lib.hid S
    clear hid hfx hf hR
    go_enter Try.func93, Try.ntmps93
    go_wp2_with fail
    refine hix.out.mono ?_
    rintro e w1 ⟨rfl, hb1⟩
    have S1 := Lib.hid (S.out.grow hb1)
    have hch := Lib.hid (Chg.of_below (F := (Value.slice B xs.length cc).ownBlock.toList) hb1)
    clear hix hb1 S
    go_wp2_with fail
    go_ret
    exact ⟨rfl, S1.out, hch.out⟩
  · have hlt : xs.findIdx p < xs.length := List.findIdx_lt_length_of_exists (by simpa using List.any_eq_true.1 hq)
    have hid : idxP p xs = (xs.findIdx p : Int) := by unfold idxP; rw [if_pos hq]
    have hyes : p xs[xs.findIdx p] = true := List.findIdx_getElem (w := hlt)
    have hbef : (xs.take (xs.findIdx p)).any p = false := by
      rw [List.any_eq_false]
      intro x hx
      obtain ⟨j, hj, rfl⟩ := List.mem_take_iff_getElem.1 hx
      have := List.not_of_lt_findIdx (xs := xs) (p := p) (i := j) (by omega)
      simpa using this
    have HD := DelInv.start hlt hyes hbef
    rw [hid] at hix
    generalize xs.findIdx p = k0 at *
    obtain ⟨gx, cap', cur, e1, -⟩ := own_block (S.own (i := 0) rfl) (by omega)
    simp only [Value.slice.injEq] at e1
    obtain ⟨rfl, -, rfl⟩ := e1
    have hcc : xs.length ≤ cc ∧ cc ≤ 9223372036854775807 := by
      obtain ⟨g', cap', cur, e1, -, -, hn, hm, -⟩ := own_block (S.own (i := 0) rfl) (by omega)
      simp only [Value.slice.injEq] at e1
      obtain ⟨-, -, rfl⟩ := e1
      exact ⟨hn, by unfold maxLen at hm; omega⟩
    have hne1 : ((k0 : Int) == -1) = false := beq_eq_false_iff_ne.2 (by omega)
    obtain ⟨n, hn⟩ : ∃ n, xs.length = n := ⟨_, rfl⟩
    rw [hn] at S hix hf hlt hl hcc ⊢
    obtain ⟨zs, hzs⟩ : ∃ zs, (xs.filter fun x => !p x) = zs := ⟨_, rfl⟩
    rw [hzs]
    replace S := Lib.hid S
    replace hf := Lib.hid hf
    replace HD := Lib.hid HD
    replace hn := Lib.hid hn
    replace hzs := Lib.hid hzs
    have hRR := Lib.hid hR
    clear hid hyes hbef hq hR hI
    go_enter Try.func93, Try.ntmps93
    go_wp2_with fail
    refine hix.out.mono ?_
    rintro e w1 ⟨rfl, hb1⟩
    have S1 := Lib.hid (S.out.grow hb1)
    have hch := Lib.hid (Chg.of_below (F := [gx]) hb1)
    clear hix hb1 S
    go_wp2_with fail
    go_loopw [5, 6, 7] (fun vi vj _ wr => ∃ (i j : Nat) (ys : List Value), i < j ∧ j ≤ n ∧ vi = .int .i64 i ∧ vj = .int .i64 j ∧ Hid (DelInv p xs i j ys) ∧ Hid (Sp w0 wr (Own 3 1 (.slice (some ⟨gx, 0, none⟩) n cc) n ys :: ps)) ∧ Hid (Chg [gx] w wr)) (fun _ vj _ _ => n - (intOf vj).toNat)
    case atStart => exact ⟨k0, k0 + 1, _, by omega, by omega, rfl, by go_num, HD, S1, hch⟩
    case round =>
      obtain ⟨i, j, ys, hij, hjn, rfl, rfl, HI, HS, HC⟩ := hrel
      clear S1 hch HD hlt hne1
      by_cases hlt : j < n
      · have hltz : decide ((j : Int) < (n : Int)) = true := decide_eq_true (Int.ofNat_lt.2 hlt)
        have hjx : j < xs.length := by rw [hn.out]; exact hlt
        obtain ⟨g', cap', cur, e1, -, hh, -, -, -, ht⟩ := own_block (HS.out.own (i := 0) rfl) (by omega)
        simp only [Value.slice.injEq, Option.some.injEq, Addr.mk.injEq] at e1
        obtain ⟨⟨rfl, -⟩, -, rfl⟩ := e1
        have m0 := (own_at hh ht (o := j) (by omega)).1
        rw [HI.out.2.2.2.2 j (Nat.le_refl _), List.getElem?_map, List.getElem?_eq_getElem hjx] at m0
        have f0 := (own_at hh ht (o := i) (by omega)).2
        have hil : i < ys.length := by rw [HI.out.2.1, hn.out]; omega
        have n0 := (own_at hh ht (o := i) (by omega)).1
        rw [List.getElem?_eq_getElem hil] at n0
        obtain ⟨x, hx⟩ : ∃ x, xs[j] = x := ⟨_, rfl⟩
        have hRx := hRR.out _ (List.getElem_mem hjx)
        have hkp := fun h => HI.out.keep hjx h
        have hsk := fun h => HI.out.skip hjx h
        rw [hx] at m0 hRx hkp hsk
        have hcall := Lib.hid (hf.out x ys wr hRx HS.out)
        have hS2 := Lib.hid (fun W (h : Below wr.heap.size wr W) => (HS.out.grow h).own_put (i := 0) rfl (.int .i64 x) (o := i) (by omega))
        replace hkp := Lib.hid hkp
        replace hsk := Lib.hid hsk
        replace hx := Lib.hid hx
        simp only [Option.map_some] at m0
        generalize ys[i] = old at n0
        generalize p x = q at *
        clear hh ht hil hRx
        cases q
        · have HI2 := Lib.hid (hkp.out rfl)
          clear hkp hsk
          go_wp2_with fail
          refine hcall.out.mono ?_
          rintro e w2 ⟨rfl, hb2⟩
          have S3 := Lib.hid (hS2.out _ hb2)
          have n2 := ((bcell hb2).1 _ _ (World.block_lt_of_cell? _ _ n0)).trans n0
          have f2 := ((bcell hb2).2 gx i (World.block_lt_of_cell? _ _ n0)).trans f0
          have HC2 := Lib.hid ((HC.out.then hb2).set (p := ⟨gx, i, none⟩) (by simp) (.int .i64 x))
          clear hcall hb2 HS HC hS2 m0 n0 f0
          go_wp2_with fail
          go_roundw
          case rel => exact ⟨i + 1, j + 1, _, by omega, by omega, by go_num, by go_num, HI2, S3, HC2⟩
          case measure => simp [intOf]; omega
        · have HI2 := Lib.hid (hsk.out rfl)
          clear hkp hsk
          go_wp2_with fail
          refine hcall.out.mono ?_
          rintro e w2 ⟨rfl, hb2⟩
          have S3 := Lib.hid (HS.out.grow hb2)
          have HC2 := Lib.hid (HC.out.then hb2)
          clear hcall hb2 HS HC hS2 m0 n0 f0
          go_wp2_with fail
          go_roundw
          case rel => exact ⟨i, j + 1, _, by omega, by omega, rfl, by go_num, HI2, S3, HC2⟩
          case measure => simp [intOf]; omega
      · obtain rfl : j = n := by omega
        have hltz : decide ((j : Int) < (j : Int)) = false := by simp
        obtain ⟨g', cap', cur, e1, -, hh, -, -, -, ht⟩ := own_block (HS.out.own (i := 0) rfl) (by omega)
        simp only [Value.slice.injEq, Option.some.injEq, Addr.mk.injEq] at e1
        obtain ⟨⟨rfl, -⟩, -, rfl⟩ := e1
        have hcl : ∀ ty, (Builtin.clear_ #[30] ty #[.slice (some ⟨gx, i, none⟩) (j - i) (cc - i)]).run Try.prog wr = .ok (.tuple #[]) (wr.setCells gx i (List.replicate (j - i) (.int .i64 0))) := fun ty =>
          Lib.run_clear_slice wr _ _ ty _ Try.underlying30 Try.zeroValue3 (by simp [Value.cells]) rfl gx i _ _ (by omega)
            (fun t ht' => by
              have hlen : i + t < ys.length := by rw [HI.out.2.1, hn.out]; omega
              rw [(own_at hh ht (o := i + t) (by omega)).1, List.getElem?_eq_getElem hlen]; rfl)
            (fun t ht' => (own_at hh ht (o := i + t) (by omega)).2)
        obtain ⟨ys', S2, hy2, hc2⟩ := HS.out.own_puts (i := 0) (List.replicate (j - i) (.int .i64 0)) i wr _ _ rfl (by simp; omega)
        have S3 := S2.own_cut (i := 0) (m := i) rfl (by omega)
        obtain ⟨a1, a2, a3, a4, a5⟩ := HI.out
        have htk : xs.take j = xs := by rw [← hn.out, List.take_length]
        rw [hy2, a3, htk, hzs.out] at S3
        rw [htk, hzs.out] at a4
        have hzl := Lib.hid a4
        have hch2 := Lib.hid (HC.out.trans hc2)
        replace S3 := Lib.hid S3
        clear HI HS HC hh ht S2 hy2 hc2 a1 a2 a3 a4 a5 htk
        go_wp2_with fail
        go_ret
        exact ⟨by rw [← hzl.out]; rfl, by rw [← hzl.out]; exact S3.out, hch2.out⟩
end Go.Proofs.Ytmikconjhmhekaa

/- Contracts: lists of indices in the program: all of them, one left out, the place of one. -/
namespace Go.Proofs.Ytmikconjhmhekaa
open Go.RowKit Go.Shelf

def delRenN : Go.Shelf.Ren := ⟨fun | 45 => 204 | n => n, fun | 22 => 30 | 23 => 3 | n => n, fun | n => n⟩

theorem delLayN : SlLaysE.n45 Try.prog delRenN := {
  mixed := by kernel_rfl
  f45 := ⟨Try.f204.name, by kernel_rfl, Try.func204.trans (congrArg some (by kernel_rfl))⟩
  t0 := Try.underlying0
  a0 := Try.isAgg0
  z0 := Try.sizeOf0
  v0 := Try.zeroValue0
  t3 := Try.underlying3
  a3 := Try.isAgg3
  z3 := Try.sizeOf3
  v3 := Try.zeroValue3
  t4 := Try.underlying4
  a4 := Try.isAgg4
  z4 := Try.sizeOf4
  v4 := Try.zeroValue4
  t22 := Try.underlying30
  a22 := Try.isAgg30
  z22 := Try.sizeOf30
  v22 := Try.zeroValue30
  a23 := Try.isAgg3
  z23 := Try.sizeOf3 }

theorem putCells_take {α : Type} [Inhabited α] (enc : α → Value) (d : Array α) (c : Array Value) {m : Nat} (hm : m ≤ d.size) (hd : d.size ≤ c.size) : (Sort.putCells enc 0 d c).toList.take m = (d.toList.map enc).take m := by
  unfold Sort.putCells
  apply List.ext_getElem
  · simp; omega
  · intro i h1 h2
    have hi : i < m := by simp at h1; omega
    have hid : i < d.size := by omega
    simp [hid]
/-- A row that is laid anew and cut. -/
theorem Sp.own_putRow {α : Type} [Inhabited α] {w0 w : World} {g cap n m q i : Nat} {e : TypeId} {ps : List Asn} {xs : List Value} (enc : α → Value) (d : Array α) (h : Sp w0 w ps) (hi : ps[i]? = some (Own e 1 (.slice (some ⟨g, 0, none⟩) n cap) n xs)) (hd : d.size ≤ n) (hm : m ≤ d.size) (hn : 0 < n) :
    Sp w0 (Sort.putRow enc (Sort.ahead w q) g 0 d) (ps.set i (Own e 1 (.slice (some ⟨g, 0, none⟩) m cap) m ((d.toList.map enc).take m))) := by
  obtain ⟨F, ⟨rfl, hh⟩, hF, hall⟩ := h.upd hi
  obtain ⟨g', cap', cur, e1, h0, hg, hnc, hmx, hc, ht⟩ := own_block hh hn
  simp only [Value.slice.injEq, Option.some.injEq, Addr.mk.injEq] at e1
  obtain ⟨⟨rfl, _⟩, _, rfl⟩ := e1
  refine hall _ _ [g] ⟨rfl, rfl, rfl, by simp [Sort.putRow, Sort.mapBlock, Sort.ahead], fun k _ hk => ?_⟩ ⟨rfl, ?_, .inr ⟨g, cap, Sort.putCells enc 0 d cur, rfl, Nat.zero_le _, ?_, by omega, hmx, ?_, ?_⟩⟩ (fun b hb => .inl hb)
  · have hne : g ≠ k := fun e => hk (by simp [Value.ownBlock, e])
    simp only [Sort.putRow, Sort.mapBlock, Sort.ahead, Array.getElem?_modify]
    rw [if_neg hne]
  · rw [List.length_take, List.length_map, Array.length_toList]; omega
  · simp only [Sort.putRow, Sort.mapBlock, Sort.ahead, Array.getElem?_modify, if_true, hg, Option.map_some, Sort.onCells]
  · unfold Sort.putCells; simp [hc]
  · rw [Nat.mul_one]
    exact putCells_take enc d cur hm (by omega)

set_option maxRecDepth 100000 in
set_option maxHeartbeats 4000000 in
theorem cloneI_any (A : Option Addr) (n cap : Nat) (xs : List Int) (w : World) (hx : IntsAt w A xs) (hn : xs.length = n) (hl : n ≤ 1000000) (h0 : 0 < n) :
    Calls Try.prog 205 #[.slice A n cap] w fun e w' => ∃ g c, e = .returned (.slice (some ⟨g, 0, none⟩) n c) ∧ Sp w w' [Own 3 1 (.slice (some ⟨g, 0, none⟩) n c) n (xs.map (.int .i64))] := by
  obtain ⟨i0, hi, hz0, hz1, hz2⟩ := info_parts infoInt
  obtain ⟨b, off, rfl, -⟩ := hx.at_ 0 (by omega)
  have hs : Src w (some ⟨b, off, none⟩) n 1 (xs.map (.int .i64)) := .inr ⟨_, rfl, by simp [hn], fun j u hu => by
    rw [List.getElem?_map] at hu
    have hj : j < xs.length := by
      rcases Nat.lt_or_ge j xs.length with h | h
      · exact h
      · rw [List.getElem?_eq_none h] at hu; cases hu
    rw [List.getElem?_eq_getElem hj] at hu
    simp only [Option.map_some, Option.some.injEq] at hu
    rw [add_none, hx.get hj, hu]⟩
  have hnil := fun w : World => Lib.run_eql_slice_nil (P := Try.prog) w 30 3 (some ⟨b, off, none⟩) n cap 0 0 Try.underlying30
  have S0 := Lib.hid ((Sp.start w).own_made 3 1)
  have hs2 := Lib.hid (hs.grow (bal (bb w) (.cells #[] 3)))
  have h1H : Hid (∀ u ∈ xs.map (Value.int .i64), u.oneCell' = true) := fun u hu => by
    obtain ⟨x, -, rfl⟩ := List.mem_map.1 hu
    rfl
  simp only [Option.isNone_some] at hnil
  clear hx hs hn
  go_enter Try.func205, Try.ntmps205
  go_wp2_with (at_builtin; refine wpList_append_src rfl _ _ rfl Try.underlying30 hi hz0 hz1 hz2 rfl (by decide) _ _ _ rfl (S0.out.own (i := 0) rfl) _ n cap _ rfl hs2.out h1H.out ?c3 ?c4 ?_)
  case c3 => unfold maxLen; omega
  case c4 => omega
  intro v' w' hown hg hat
  have S1 := S0.out.own_push (i := 0) rfl (bb _) hown hg (by simpa using hat)
  obtain ⟨g, c, cur, rfl, -⟩ := own_block hown (by omega)
  replace S1 := Lib.hid S1
  clear hown hg hat S0 hs2 hnil
  go_wp2_with fail
  go_ret
  exact ⟨g, c, rfl, S1.out⟩

set_option maxRecDepth 100000 in
set_option maxHeartbeats 4000000 in
theorem withoutI_any (A : Option Addr) (n cap k : Nat) (xs : List Int) (w : World) (hx : IntsAt w A xs) (hn : xs.length = n) (hl : n ≤ 1000000) (hk : k < n) :
    Calls Try.prog 111 #[.slice A n cap, .int .i64 k] w fun e w' => ∃ B c, e = .returned (.slice B (n - 1) c) ∧ Sp w w' [Own 3 1 (.slice B (n - 1) c) (n - 1) ((xs.eraseIdx k).map (.int .i64))] := by
  have hcl := Lib.hid (cloneI_any A n cap xs w hx hn hl (by omega))
  have hw1 : IntKind.i64.wrap ((k : Int) + 1) = ((k + 1 : Nat) : Int) := by rw [IntWalk.i64_in _ (by omega)]; rfl
  have hxI := Lib.hid hx.2
  have hnH := Lib.hid hn
  clear hx hn
  go_enter Try.func111, Try.ntmps111
  go_wp2_with fail
  refine hcl.out.mono ?_
  rintro e w1 ⟨g, c, rfl, S1⟩
  have hdel : Calls Try.prog 204 #[.slice (some ⟨g, 0, none⟩) n c, .int .i64 k, .int .i64 ((k + 1 : Nat) : Int)] w1 fun e w' => e = .returned (.slice (some ⟨g, 0, none⟩) (n - 1) c) ∧ Sp w w' [Own 3 1 (.slice (some ⟨g, 0, none⟩) (n - 1) c) (n - 1) ((xs.eraseIdx k).map (.int .i64))] := by
    obtain ⟨g', cap', cur, e1, -, hh, hnc, hm, -, ht⟩ := own_block (S1.own (i := 0) rfl) (by omega)
    simp only [Value.slice.injEq, Option.some.injEq, Addr.mk.injEq] at e1
    obtain ⟨⟨rfl, -⟩, -, rfl⟩ := e1
    obtain ⟨i0, hi0, hz0, hz1, hz2⟩ := info_parts infoInt
    have hH : Sort.Holds (Value.int .i64) w1 g 0 xs.toArray := fun j hj => by
      have hj' : j < xs.length := by simpa using hj
      have h := own_at hh ht (o := j) (by rw [hnH.out] at hj'; omega)
      rw [getElem!_pos xs.toArray j hj, Nat.zero_add]
      exact ⟨h.1.trans (by rw [List.getElem?_map, List.getElem?_eq_getElem hj']; rfl), h.2⟩
    have hcon := AnyE.slices_Delete delLayN (Value.int .i64) (fun _ => rfl) 0 Try.zeroValue3 i0 hi0 hz1 g 0 c k (k + 1) xs.toArray w1 hH (by simp [hnH.out]; omega) (by unfold maxLen at hm; omega) (by omega) (by simp [hnH.out]; omega)
    change Calls Try.prog 204 _ _ _ at hcon
    rw [show xs.toArray.size = n by simp [hnH.out]] at hcon
    refine hcon.mono ?_
    rintro e w' ⟨rfl, q, rfl⟩
    have hers : xs.eraseIdx k = xs.take k ++ xs.drop (k + 1) := List.eraseIdx_eq_take_drop_succ ..
    have S2 := S1.own_putRow (i := 0) (q := q) (m := n - 1) (Value.int .i64) (xs.take k ++ xs.drop (k + 1) ++ List.replicate (k + 1 - k) 0).toArray rfl (by simp [hnH.out]; omega) (by simp [hnH.out]; omega) (by omega)
    have hlist : (((xs.take k ++ xs.drop (k + 1) ++ List.replicate (k + 1 - k) 0).toArray.toList.map (Value.int .i64)).take (n - 1)) = (xs.eraseIdx k).map (.int .i64) := by
      rw [hers, List.toList_toArray, List.map_append, List.take_append_of_le_length (by simp [hnH.out]; omega), List.take_of_length_le (by simp [hnH.out]; omega)]
    rw [hlist] at S2
    exact ⟨by simp, S2⟩
  replace hdel := Lib.hid hdel
  clear hcl S1
  go_wp2_with fail
  refine hdel.out.mono ?_
  rintro e w2 ⟨rfl, S2⟩
  replace S2 := Lib.hid S2
  clear hdel
  go_wp2_with fail
  go_ret
  exact ⟨_, _, rfl, S2.out⟩

set_option maxRecDepth 100000 in
set_option maxHeartbeats 4000000 in
theorem indexI_any (A : Option Addr) (n cap p : Nat) (xs : List Int) (x : Int) (w : World) (hx : IntsAt w A xs) (hn : xs.length = n) (hl : n ≤ 1000000) (hp : xs[p]? = some x) (hno : ∀ j, j < p → xs[j]? ≠ some x) :
    Calls Try.prog 112 #[.slice A n cap, .int .i64 x] w fun e w' => e = .returned (.int .i64 p) ∧ w' = w := by
  have hpl : p < n := by rw [← hn]; exact (List.getElem?_eq_some_iff.1 hp).1
  have hI := Lib.hid hx
  have hnH := Lib.hid hn
  have hpH := Lib.hid hp
  have hnoH := Lib.hid hno
  clear hx hn hp hno
  go_enter Try.func112, Try.ntmps112
  go_wp2_with fail
  go_loopw [5, 8] (fun _ vi wr => ∃ k : Nat, k ≤ p ∧ vi = .int .i64 k ∧ wr = w) (fun _ vi _ => n - (intOf vi).toNat)
  case atStart => exact ⟨0, Nat.zero_le _, rfl, rfl⟩
  case round =>
    obtain ⟨k, hk, rfl, rfl⟩ := hrel
    have hkn : k < n := by omega
    have hkx : k < xs.length := by rw [hnH.out]; exact hkn
    obtain ⟨b, off, rfl, m0⟩ := hI.out.at_ k hkx
    by_cases hkp : k = p
    · subst hkp
      have hv : xs[k] = x := by have := hpH.out; rw [List.getElem?_eq_getElem hkx] at this; simpa using this
      rw [hv] at m0
      have d1 : (x == x) = true := by simp
      clear hv
      go_wp2_with fail
      go_ret
      exact ⟨rfl, rfl⟩
    · have hv : xs[k] ≠ x := fun e => hnoH.out k (by omega) (by rw [List.getElem?_eq_getElem hkx, e])
      generalize xs[k] = y at *
      have d1 : (x == y) = false := by simpa using fun e => hv e.symm
      have d2 : decide (x = y) = false := decide_eq_false fun e => hv e.symm
      clear hv
      go_wp2_with fail
      go_roundw
      case rel => exact ⟨k + 1, by omega, by go_num, by first | rfl | trivial⟩
      case measure => simp [intOf]; omega
end Go.Proofs.Ytmikconjhmhekaa

/- Contracts: the laws' own comparisons of numbers. -/
namespace Go.Proofs.Ytmikconjhmhekaa
open Go.RowKit

theorem rBig_any (ca : Option Addr) (cl cc : Nat) (w : World) : Calls Try.prog 9 #[.slice ca cl cc] w fun e w' => e = .returned (.bool (decide ((65536 : Int) < (cl : Int)))) ∧ w' = w := by
  go_enter Try.func9, Try.ntmps9
  go_wp2_with fail
  go_ret
  exact ⟨rfl, rfl⟩

set_option maxRecDepth 100000 in
set_option maxHeartbeats 4000000 in
theorem rInts_same (A A' : Option Addr) (c c' : Nat) (ns : List Int) (w : World) (hx : IntsAt w A ns) (hy : IntsAt w A' ns) (hl : ns.length ≤ 1000000) :
    Calls Try.prog 15 #[.slice A ns.length c, .slice A' ns.length c'] w fun e w' => e = .returned (.bool true) ∧ Below w.heap.size w w' := by
  have hN := Lib.hid hx
  have hM := Lib.hid hy
  clear hx hy
  go_enter Try.func15, Try.ntmps15
  go_wp2_with fail
  go_loopw [5] (fun i wr => ∃ k : Nat, k ≤ ns.length ∧ i = .int .i64 k ∧ Hid (Below w.heap.size w wr)) (fun i _ => ns.length - (intOf i).toNat)
  case atStart => exact ⟨0, Nat.zero_le _, rfl, bb _⟩
  case round =>
    obtain ⟨k, hk, rfl, HS⟩ := hrel
    by_cases hlt : k < ns.length
    · obtain ⟨b, off, rfl, m0⟩ := (hN.out.grow HS.out).at_ k hlt
      obtain ⟨b', off', rfl, p0⟩ := (hM.out.grow HS.out).at_ k hlt
      have k0 := cell_regrown m0
      have q0 := cell_regrown p0
      generalize ns[k] = v at *
      clear m0 p0
      go_wp2_with fail
      refine wp_region_quiet_below (by kernel_rfl) (by kernel_rfl) ?_
      repeat (any_goals (go_big_quiet_step (fail)))
      refine wpQuiet_nil ?_
      rintro w3 ⟨p, rfl⟩
      have HS4 := Lib.hid (btr HS.out (below_regrown _ p.d p.os))
      clear HS k0 q0
      go_wp2_with fail
      go_roundw
      case rel => exact ⟨k + 1, by omega, by go_num, HS4⟩
      case measure => simp [intOf]; omega
    · obtain rfl : k = ns.length := by omega
      have hB := HS.out
      go_wp2_with fail
      go_ret
      exact ⟨rfl, hB⟩

set_option maxRecDepth 100000 in
set_option maxHeartbeats 4000000 in
theorem vInts_same (A A' : Option Addr) (c c' : Nat) (ns : List Int) (w : World) (hx : IntsAt w A ns) (hy : IntsAt w A' ns) (hl : ns.length ≤ 1000000) :
    Calls Try.prog 52 #[.slice A ns.length c, .slice A' ns.length c'] w fun e w' => e = .returned (.bool true) ∧ Below w.heap.size w w' := by
  have hN := Lib.hid hx
  have hM := Lib.hid hy
  clear hx hy
  go_enter Try.func52, Try.ntmps52
  go_wp2_with fail
  go_loopw [5] (fun i wr => ∃ k : Nat, k ≤ ns.length ∧ i = .int .i64 k ∧ Hid (Below w.heap.size w wr)) (fun i _ => ns.length - (intOf i).toNat)
  case atStart => exact ⟨0, Nat.zero_le _, rfl, bb _⟩
  case round =>
    obtain ⟨k, hk, rfl, HS⟩ := hrel
    by_cases hlt : k < ns.length
    · obtain ⟨b, off, rfl, m0⟩ := (hN.out.grow HS.out).at_ k hlt
      obtain ⟨b', off', rfl, p0⟩ := (hM.out.grow HS.out).at_ k hlt
      have k0 := cell_regrown m0
      have q0 := cell_regrown p0
      generalize ns[k] = v at *
      clear m0 p0
      go_wp2_with fail
      refine wp_region_quiet_below (by kernel_rfl) (by kernel_rfl) ?_
      repeat (any_goals (go_big_quiet_step (fail)))
      refine wpQuiet_nil ?_
      rintro w3 ⟨p, rfl⟩
      have HS4 := Lib.hid (btr HS.out (below_regrown _ p.d p.os))
      clear HS k0 q0
      go_wp2_with fail
      go_roundw
      case rel => exact ⟨k + 1, by omega, by go_num, HS4⟩
      case measure => simp [intOf]; omega
    · obtain rfl : k = ns.length := by omega
      have hB := HS.out
      go_wp2_with fail
      go_ret
      exact ⟨rfl, hB⟩
end Go.Proofs.Ytmikconjhmhekaa

/- Contracts: numbers sorted and without repetitions, in the library. -/
namespace Go.Proofs.Ytmikconjhmhekaa
open Go.RowKit Go.Sort

theorem sortI_any (xs : List Int) (B : Option Addr) (cc : Nat) (w0 w : World) (ps : List Asn) (S : Sp w0 w (Own 3 1 (.slice B xs.length cc) xs.length (xs.map (.int .i64)) :: ps)) (hl : xs.length ≤ 1000000) :
    Calls Try.prog 230 #[.slice B xs.length cc] w fun e w' => e = .returned (.tuple #[]) ∧ Sp w0 w' (Own 3 1 (.slice B xs.length cc) xs.length ((xs.mergeSort fun x y => decide (x ≤ y)).map (.int .i64)) :: ps) := by
  rcases Nat.eq_zero_or_pos xs.length with h0 | h0
  · obtain rfl : xs = [] := List.length_eq_zero_iff.1 h0
    refine (Try.slices_Sort_int_none B cc w).mono ?_
    rintro e w' ⟨rfl, rfl⟩
    refine ⟨rfl, ?_⟩
    rw [List.mergeSort_nil]
    exact S
  · obtain ⟨g, cap, cur, e1, h0', hg, hnc, hmx, hc, ht⟩ := own_block (S.own (i := 0) rfl) h0
    simp only [Value.slice.injEq] at e1
    obtain ⟨rfl, -, rfl⟩ := e1
    rw [Nat.mul_one] at ht
    have hH := holds_of_blockI hg ht
    refine (Try.slices_Sort_int g 0 cc xs w hH (S.own (i := 0) rfl |> fun h => owns_lt h rfl) (by omega)).mono ?_
    rintro e w' ⟨rfl, n, os, rfl⟩
    exact ⟨rfl, S.own_push (i := 0) rfl (bb _) (ownsRow_sortedI (List.length_mergeSort _) (Nat.zero_le _) hg hnc hmx hc) (grownBy_sortedI _) (.inl rfl)⟩

theorem compactI_any (xs : List Int) (B : Option Addr) (cc : Nat) (w0 w : World) (ps : List Asn) (S : Sp w0 w (Own 3 1 (.slice B xs.length cc) xs.length (xs.map (.int .i64)) :: ps)) (hl : xs.length ≤ 1000000) :
    Calls Try.prog 231 #[.slice B xs.length cc] w fun e w' => e = .returned (.slice B (Lib.compact xs).length cc) ∧ Sp w0 w' (Own 3 1 (.slice B (Lib.compact xs).length cc) (Lib.compact xs).length ((Lib.compact xs).map (.int .i64)) :: ps) := by
  rcases Nat.eq_zero_or_pos xs.length with h0 | h0
  · obtain rfl : xs = [] := List.length_eq_zero_iff.1 h0
    refine (Try.slices_Compact_int_empty B cc w).mono ?_
    rintro e w' ⟨rfl, rfl⟩
    exact ⟨rfl, S⟩
  · obtain ⟨g, cap, cur, e1, h0', hg, hnc, hmx, hc, ht⟩ := own_block (S.own (i := 0) rfl) h0
    simp only [Value.slice.injEq] at e1
    obtain ⟨rfl, -, rfl⟩ := e1
    rw [Nat.mul_one] at ht
    have hH := holds_of_blockI hg ht
    have hcl : (Lib.compact xs).length ≤ xs.length := Lib.compact_length_le xs
    refine (Try.slices_Compact_int g 0 cc xs w hH (by omega) hnc).mono ?_
    rintro e w' ⟨rfl, q, rfl⟩
    have h := S.own_putRow (i := 0) (q := q) (m := (Lib.compact xs).length) (Value.int .i64) (Lib.compact xs ++ List.replicate (xs.length - (Lib.compact xs).length) 0).toArray rfl (by simp; omega) (by simp) h0
    refine ⟨rfl, ?_⟩
    have e2 : (((Lib.compact xs ++ List.replicate (xs.length - (Lib.compact xs).length) 0).toArray.toList.map (Value.int .i64)).take (Lib.compact xs).length) = (Lib.compact xs).map (.int .i64) := by
      rw [List.toList_toArray, List.map_append, List.take_append_of_le_length (by simp), List.take_of_length_le (by simp)]
    rw [e2] at h
    exact h
end Go.Proofs.Ytmikconjhmhekaa

/- Plain facts: the variables of clauses, in ascending order. No program in sight. -/
namespace Go.Proofs.Ytmikconjhmhekaa
open Go.RowKit

theorem ascI_ext : ∀ {a b : List Int}, a.Pairwise (· < ·) → b.Pairwise (· < ·) → (∀ x, x ∈ a ↔ x ∈ b) → a = b
  | [], [], _, _, _ => rfl
  | [], y :: b, _, _, h => absurd ((h y).2 (List.mem_cons_self ..)) (by simp)
  | x :: a, [], _, _, h => absurd ((h x).1 (List.mem_cons_self ..)) (by simp)
  | x :: a, y :: b, ha, hb, h => by
    rw [List.pairwise_cons] at ha hb
    have e : x = y := by
      rcases List.mem_cons.1 ((h x).1 (List.mem_cons_self ..)) with e | hx
      · exact e
      rcases List.mem_cons.1 ((h y).2 (List.mem_cons_self ..)) with e | hy
      · exact e.symm
      have := hb.1 x hx; have := ha.1 y hy; omega
    subst e
    congr 1
    refine ascI_ext ha.2 hb.2 fun z => ⟨fun hz => ?_, fun hz => ?_⟩
    · rcases List.mem_cons.1 ((h z).1 (List.mem_cons_of_mem _ hz)) with e | h2
      · have := ha.1 z hz; omega
      · exact h2
    · rcases List.mem_cons.1 ((h z).2 (List.mem_cons_of_mem _ hz)) with e | h2
      · have := hb.1 z hz; omega
      · exact h2
theorem bangI {l : List Int} {j : Nat} (h : j < l.length) : l.toArray[j]! = l[j] := by rw [getElem!_pos l.toArray j (by simpa using h)]; simp
theorem compactI_mem {l : List Int} {x : Int} : x ∈ Lib.compact l ↔ x ∈ l := by
  unfold Lib.compact Lib.compactUpTo
  rw [List.mem_map]
  constructor
  · rintro ⟨j, hj, rfl⟩
    have hjl := List.mem_range.1 (List.mem_filter.1 hj).1
    rw [bangI hjl]
    exact List.getElem_mem hjl
  · intro hx
    obtain ⟨j, hj, rfl⟩ := List.getElem_of_mem hx
    have key : ∀ j (hj : j < l.length), ∃ i, i ∈ (List.range l.length).filter (Lib.keeps l.toArray) ∧ l.toArray[i]! = l[j] := by
      intro j
      induction j with
      | zero => exact fun hj => ⟨0, List.mem_filter.2 ⟨List.mem_range.2 hj, by simp [Lib.keeps]⟩, bangI hj⟩
      | succ j ih =>
        intro hj
        by_cases e : l[j + 1] = l[j]
        · obtain ⟨i, hi, h2⟩ := ih (by omega)
          exact ⟨i, hi, by rw [h2, e]⟩
        · refine ⟨j + 1, List.mem_filter.2 ⟨List.mem_range.2 hj, ?_⟩, bangI hj⟩
          refine Lib.keeps_pos ?_
          rw [Nat.add_sub_cancel, bangI hj, bangI (by omega)]
          exact e
    exact key j hj
theorem compactI_asc {l : List Int} (h : l.Pairwise (· ≤ ·)) : (Lib.compact l).Pairwise (· < ·) := by
  unfold Lib.compact Lib.compactUpTo
  rw [List.pairwise_map]
  have hr : ((List.range l.length).filter (Lib.keeps l.toArray)).Pairwise (· < ·) := List.Pairwise.filter _ List.pairwise_lt_range
  refine hr.imp_of_mem fun {i j} hi hj hij => ?_
  have hil := List.mem_range.1 (List.mem_filter.1 hi).1
  have hjl := List.mem_range.1 (List.mem_filter.1 hj).1
  have hk := (List.mem_filter.1 hj).2
  rw [bangI hil, bangI hjl]
  have hget := List.pairwise_iff_getElem.1 h
  have hne : l[j] ≠ l[j - 1]'(by omega) := fun e => by
    have : Lib.keeps l.toArray j = false := Lib.keeps_neg (by omega) (by rw [bangI hjl, bangI (by omega)]; exact e)
    rw [this] at hk; cases hk
  have h1 : l[j - 1]'(by omega) ≤ l[j] := hget (j - 1) j (by omega) hjl (by omega)
  by_cases e : i = j - 1
  · subst e; omega
  · have := hget i (j - 1) hil (by omega) (by omega); omega
theorem sorted_le (l : List Int) : (l.mergeSort fun x y => decide (x ≤ y)).Pairwise (· ≤ ·) := by
  have h := List.pairwise_mergeSort (le := fun x y : Int => decide (x ≤ y)) (fun a b c h1 h2 => by simp at *; omega) (fun a b => by simp; omega) l
  exact h.imp fun h => by simpa using h
/-- A list in ascending order, without repetitions. -/
def ascL (l : List Int) : List Int := Lib.compact (l.mergeSort fun x y => decide (x ≤ y))
theorem ascL_asc (l : List Int) : (ascL l).Pairwise (· < ·) := compactI_asc (sorted_le l)
theorem ascL_mem {l : List Int} {x : Int} : x ∈ ascL l ↔ x ∈ l := by unfold ascL; rw [compactI_mem, List.mem_mergeSort]
theorem ascL_eq {l m : List Int} (hm : m.Pairwise (· < ·)) (h : ∀ x, x ∈ l ↔ x ∈ m) : ascL l = m := ascI_ext (ascL_asc l) hm fun x => by rw [ascL_mem, h]

/-- The variables up to n with a property. -/
def varF (n : Nat) (p : Nat → Bool) : List Int := ((List.range' 1 n).filter p).map fun (v : Nat) => (v : Int)
theorem varF_asc (n : Nat) (p : Nat → Bool) : (varF n p).Pairwise (· < ·) := by
  unfold varF
  rw [List.pairwise_map]
  exact (List.Pairwise.filter _ (List.pairwise_lt_range' (s := 1) (n := n))).imp fun h => by omega
theorem varF_mem {n : Nat} {p : Nat → Bool} {x : Int} : x ∈ varF n p ↔ 1 ≤ x ∧ x ≤ n ∧ p x.toNat = true := by
  unfold varF
  simp only [List.mem_map, List.mem_filter, List.mem_range'_1]
  constructor
  · rintro ⟨v, ⟨⟨h1, h2⟩, h3⟩, rfl⟩
    exact ⟨by omega, by omega, by simpa using h3⟩
  · rintro ⟨h1, h2, h3⟩
    exact ⟨x.toNat, ⟨⟨by omega, by omega⟩, h3⟩, by omega⟩
theorem varF_len (n : Nat) (p : Nat → Bool) : (varF n p).length ≤ n := by
  unfold varF
  rw [List.length_map]
  exact Nat.le_trans (List.length_filter_le _ _) (by simp)
theorem varF_snoc (n : Nat) (p : Nat → Bool) : varF (n + 1) p = varF n p ++ (if p (n + 1) = true then [((n + 1 : Nat) : Int)] else []) := by
  unfold varF
  rw [List.range'_concat, List.filter_append, List.map_append]
  congr 1
  rw [Nat.one_mul, Nat.add_comm 1 n]
  by_cases h : p (n + 1) = true <;> simp [h]
theorem varF_sub (n : Nat) (p q : Nat → Bool) : (varF n p).filter (fun x => q x.toNat) = varF n fun v => p v && q v := by
  unfold varF
  rw [List.filter_map, List.filter_filter]
  congr 1
  apply List.filter_congr
  intro v _
  simp [Function.comp, Bool.and_comm]
theorem varF_split (n : Nat) (p q : Nat → Bool) : (varF n fun v => p v && !q v).length + (varF n fun v => q v && !p v).length + (varF n fun v => p v && q v).length = (varF n fun v => p v || q v).length := by
  unfold varF
  simp only [List.length_map]
  induction List.range' 1 n with
  | nil => rfl
  | cons v l ih =>
    simp only [List.filter_cons]
    cases p v <;> cases q v <;> simp <;> omega
theorem varF_congr {n : Nat} {p q : Nat → Bool} (h : ∀ v, 1 ≤ v → v ≤ n → p v = q v) : varF n p = varF n q := by
  unfold varF
  congr 1
  apply List.filter_congr
  intro v hv
  rw [List.mem_range'_1] at hv
  exact h v hv.1 (by omega)

/-- A variable is in some clause. -/
def usedB (cls : List (List Int)) (v : Nat) : Bool := cls.any fun c => c.any fun l => l.natAbs == v
/-- All literals' variables. -/
def flatA (cls : List (List Int)) : List Int := cls.flatMap fun c => c.map fun l => (l.natAbs : Int)
theorem flatA_take {cls : List (List Int)} {k : Nat} (h : k < cls.length) : flatA (cls.take (k + 1)) = flatA (cls.take k) ++ cls[k].map fun l => (l.natAbs : Int) := by
  unfold flatA
  rw [List.take_succ_eq_append_getElem h, List.flatMap_append]
  simp
theorem used_asc {cls : List (List Int)} {n : Nat} (h : ∀ c ∈ cls, ∀ l ∈ c, l ≠ 0 ∧ l.natAbs ≤ n) : ascL (flatA cls) = varF n (usedB cls) := by
  refine ascL_eq (varF_asc _ _) fun x => ?_
  rw [varF_mem]
  unfold flatA usedB
  simp only [List.mem_flatMap, List.mem_map, List.any_eq_true, beq_iff_eq]
  constructor
  · rintro ⟨c, hc, l, hl, rfl⟩
    have := h c hc l hl
    exact ⟨by omega, by omega, c, hc, l, hl, by simp⟩
  · rintro ⟨h1, -, c, hc, l, hl, h2⟩
    exact ⟨c, hc, l, hl, by omega⟩
theorem flatA_len {cls : List (List Int)} {m : Nat} (h : ∀ c ∈ cls, c.length ≤ m) : (flatA cls).length ≤ m * cls.length := by
  unfold flatA
  induction cls with
  | nil => simp
  | cons c cls ih =>
    rw [List.flatMap_cons, List.length_append, List.length_map, List.length_cons, Nat.mul_add]
    have := h c (List.mem_cons_self ..)
    have := ih fun d hd => h d (List.mem_cons_of_mem _ hd)
    omega
end Go.Proofs.Ytmikconjhmhekaa

/- An own row of numbers with one more. No program in sight. -/
namespace Go.Proofs.Ytmikconjhmhekaa
open Go.RowKit

theorem ownI_snoc {w0 w : World} {ps : List Asn} {e : TypeId} {d : List Int} {x : Int} {A : Option Addr} {c : Nat} (S : Sp w0 w (Own e 1 (.slice A (d.length + 1) c) (d.length + 1) (d.map (.int .i64) ++ [.int .i64 x]) :: ps)) :
    Sp w0 w (Own e 1 (.slice A (d ++ [x]).length c) (d ++ [x]).length ((d ++ [x]).map (.int .i64)) :: ps) := by
  rw [List.map_append, List.length_append]; exact S
theorem ownI_snocC {w0 w : World} {g cl cc A0 : Nat} {ca : Option Addr} {ps : List Asn} {e : TypeId} {d : List Int} {x : Int} {A : Option Addr} {c : Nat} (S : CS w0 g ca cl cc A0 w (Own e 1 (.slice A (d.length + 1) c) (d.length + 1) (d.map (.int .i64) ++ [.int .i64 x]) :: ps)) :
    CS w0 g ca cl cc A0 w (Own e 1 (.slice A (d ++ [x]).length c) (d ++ [x]).length ((d ++ [x]).map (.int .i64)) :: ps) := by
  rw [List.map_append, List.length_append]; exact S
end Go.Proofs.Ytmikconjhmhekaa

/- Contract: the variables of clauses, in the program. -/
namespace Go.Proofs.Ytmikconjhmhekaa
open Go.RowKit

theorem flatA_small {cls : List (List Int)} (hc : ∀ c ∈ cls, ClS c) : ∀ x ∈ flatA cls, 0 ≤ x ∧ x ≤ 1000 := fun x hx => by
  unfold flatA at hx
  obtain ⟨c, hcm, hx⟩ := List.mem_flatMap.1 hx
  obtain ⟨l, hl, rfl⟩ := List.mem_map.1 hx
  have := (hc c hcm).1 l hl
  unfold LitS at this
  omega
theorem flatA_in {cls : List (List Int)} {k j : Nat} (hk : k < cls.length) (hj : j < cls[k].length) : flatA (cls.take k) ++ (cls[k].take (j + 1)).map (fun l => (l.natAbs : Int)) = flatA (cls.take k) ++ (cls[k].take j).map (fun l => (l.natAbs : Int)) ++ [(cls[k][j].natAbs : Int)] := by
  rw [List.take_succ_eq_append_getElem hj, List.map_append, List.append_assoc]
  rfl

set_option maxRecDepth 100000 in
set_option maxHeartbeats 8000000 in
theorem varsOf_any (cls : List (List Int)) (hc : ∀ c ∈ cls, ClS c) (n : Nat) (hn : ∀ c ∈ cls, ∀ l ∈ c, l ≠ 0 ∧ l.natAbs ≤ n) (hl : cls.length ≤ 100) (A : Option Addr) (cap : Nat) (w : World) (hx : ClsAt w A cls) :
    Calls Try.prog 152 #[.slice A cls.length cap] w fun e w' => ∃ B cc, e = .returned (.slice B (varF n (usedB cls)).length cc) ∧ Sp w w' [Own 3 1 (.slice B (varF n (usedB cls)).length cc) (varF n (usedB cls)).length ((varF n (usedB cls)).map (.int .i64))] := by
  obtain ⟨i0, hi0, hy0, hy1, hy2⟩ := info_parts infoInt
  have S0 := Lib.hid ((Sp.start w).own_nil 3 1)
  have hX := Lib.hid hx
  have hfin := Lib.hid (used_asc hn)
  have hcH := Lib.hid hc
  have hfl : Hid ((flatA cls).length ≤ 1000 * cls.length) := Lib.hid (flatA_len fun c h => (hc c h).2)
  clear hx hn hc
  generalize varF n (usedB cls) = zs at *
  go_enter Try.func152, Try.ntmps152
  go_wp2_with fail
  go_loopw [3, 5, 7, 10] (fun v3 _ _ v10 wr => ∃ (k : Nat) (ys : List Int) (B : Option Addr) (cc : Nat), k ≤ cls.length ∧ v10 = .int .i64 k ∧ v3 = .slice B ys.length cc ∧ Hid (ys = flatA (cls.take k)) ∧ Hid (Sp w wr [Own 3 1 (.slice B ys.length cc) ys.length (ys.map (.int .i64))])) (fun _ _ _ v10 _ => cls.length - (intOf v10).toNat)
  case atStart => exact ⟨0, [], none, 0, Nat.zero_le _, rfl, rfl, rfl, S0⟩
  case round =>
    clear S0
    obtain ⟨k, ys, B, cc, hk, rfl, rfl, hys, HS⟩ := hrel
    by_cases hlt : k < cls.length
    · obtain ⟨ab, aoff, Bk, ck, rfl, n0, hIk⟩ := hX.out.at_ k hlt
      have n1 := (HS.out.below.cell (World.block_lt_of_cell? _ _ n0)).trans n0
      have hckS := hcH.out _ (List.getElem_mem hlt)
      have hlk := hckS.2
      have hyl : ys.length ≤ 100000 := by
        rw [hys.out]
        have := flatA_len (cls := cls.take k) (m := 1000) fun c h => (hcH.out c (List.mem_of_mem_take h)).2
        rw [List.length_take] at this
        omega
      have hin := Lib.hid (fun j (hj : j < cls[k].length) => flatA_in hlt hj)
      have hend := Lib.hid (flatA_take hlt)
      have hst : Hid (ys = flatA (cls.take k) ++ (cls[k].take 0).map (fun l => (l.natAbs : Int))) := by unfold Hid; rw [hys.out]; simp
      have hlast : Hid ((cls[k].take cls[k].length).map (fun l => (l.natAbs : Int)) = cls[k].map fun l => (l.natAbs : Int)) := by unfold Hid; rw [List.take_length]
      replace hckS := Lib.hid hckS
      replace hIk := Lib.hid hIk
      obtain ⟨fk1, hfk⟩ : ∃ f, flatA (cls.take (k + 1)) = f := ⟨_, rfl⟩
      rw [hfk] at hend
      replace hfk := Lib.hid hfk
      generalize flatA (cls.take k) = fk at *
      generalize cls[k] = c at *
      clear n0 hys
      go_wp2_with fail
      go_loopw [3, 7, 16] (fun v3 _ v16 wr => ∃ (j : Nat) (zs : List Int) (B : Option Addr) (cc : Nat), j ≤ c.length ∧ v16 = .int .i64 j ∧ v3 = .slice B zs.length cc ∧ zs.length ≤ ys.length + j ∧ Hid (zs = fk ++ (c.take j).map (fun l => (l.natAbs : Int))) ∧ Hid (Sp w wr [Own 3 1 (.slice B zs.length cc) zs.length (zs.map (.int .i64))])) (fun _ _ v16 _ => c.length - (intOf v16).toNat)
      case atStart => exact ⟨0, ys, B, cc, Nat.zero_le _, rfl, rfl, by omega, hst, HS⟩
      case round =>
        clear HS
        obtain ⟨j, us, D, dc, hj, rfl, rfl, hul, hus, HS⟩ := hrel
        by_cases hlt2 : j < c.length
        · obtain ⟨db, doff, rfl, m0⟩ := hIk.out.at_ j hlt2
          have m1 := (HS.out.below.cell (World.block_lt_of_cell? _ _ m0)).trans m0
          have hlit := hckS.out.1 _ (List.getElem_mem hlt2)
          have habs := Lib.hid (fun W => abs_at hlit.i64 (absV_lit hlit) W)
          have hin2 := Lib.hid (hin.out j hlt2)
          obtain ⟨x, hxx⟩ : ∃ x : Int, ((c[j].natAbs : Nat) : Int) = x := ⟨_, rfl⟩
          rw [hxx] at habs hin2
          clear m0 hlit
          generalize c[j] = l at *
          clear hxx
          go_wp2_with fail
          refine (habs.out _).mono ?_
          rintro e w2 ⟨rfl, hb2⟩
          have HS2 := Lib.hid (HS.out.grow hb2)
          clear HS hb2 m1 habs
          have S3 := HS2.out.alloc_box #[.int .i64 x] 3
          have kB := S3.cell (i := 0) rfl (o := 0) rfl
          replace S3 := Lib.hid S3
          clear HS2
          go_wp2_with (at_builtin; refine wpList_append_src rfl _ _ rfl Try.underlying30 hi0 hy0 hy1 hy2 rfl (by decide) _ _ _ rfl (S3.out.own (i := 1) rfl) _ 1 1 [.int .i64 x] rfl (Src.one kB) (by simp [Value.oneCell']) ?c3 ?c4 ?_)
          case c3 => unfold maxLen; omega
          case c4 => omega
          intro vY wY hownY hgY hatY
          have S4 := (S3.out.own_push (i := 1) rfl (bb _) hownY hgY (by simpa using hatY)).tail
          obtain ⟨aY, cY, rfl⟩ := own_slice hownY
          have S5 := Lib.hid (ownI_snoc (d := us) (x := x) S4)
          clear S3 S4 kB hownY hgY hatY
          have hlen : us.length + 1 = (us ++ [x]).length := by simp
          rw [hlen]
          replace hlen := Lib.hid hlen
          have hus2 : Hid (us ++ [x] = fk ++ (c.take (j + 1)).map (fun l => (l.natAbs : Int))) := by unfold Hid; rw [hin2.out, hus.out]
          have hul2 : (us ++ [x]).length ≤ ys.length + (j + 1) := by rw [← hlen.out]; omega
          clear hus hin2 hlen hul
          generalize us ++ [x] = us2 at *
          go_wp2_with fail
          go_roundw
          case rel => exact ⟨j + 1, us2, aY, cY, by omega, by go_num, rfl, hul2, hus2, S5⟩
          case measure => simp [intOf]; omega
        · obtain rfl : j = c.length := by omega
          have hus2 : Hid (us = flatA (cls.take (k + 1))) := by unfold Hid; rw [hus.out, hlast.out, hfk.out, hend.out]
          go_wp2_with fail
          go_roundw
          case rel => exact ⟨k + 1, us, D, dc, by omega, by go_num, rfl, hus2, HS⟩
          case measure => simp [intOf]; omega
    · obtain rfl : k = cls.length := by omega
      have hyl : ys.length ≤ 1000000 := by
        have := hfl.out
        rw [hys.out, List.take_length]; omega
      have hys2 : Hid (Lib.compact (ys.mergeSort fun x y => decide (x ≤ y)) = zs) := by
        have := hys.out
        rw [List.take_length] at this
        unfold Hid; rw [this]; exact hfin.out
      have hso := Lib.hid (sortI_any ys B cc w _ [] HS.out hyl)
      clear HS hys hfl hfin
      go_wp2_with fail
      refine hso.out.mono ?_
      rintro e w2 ⟨rfl, S2⟩
      have hel : ys.length = (ys.mergeSort fun x y => decide (x ≤ y)).length := (List.length_mergeSort _).symm
      rw [hel] at S2 hyl ⊢
      have hco := Lib.hid (compactI_any _ B cc w _ [] S2 hyl)
      rw [hys2.out] at hco
      clear S2 hys2 hso
      replace hel := Lib.hid hel
      generalize (ys.mergeSort fun x y => decide (x ≤ y)) = ys2 at *
      go_wp2_with fail
      refine hco.out.mono ?_
      rintro e w3 ⟨rfl, S3⟩
      replace S3 := Lib.hid S3
      go_wp2_with fail
      go_ret
      exact ⟨B, cc, rfl, S3.out⟩
end Go.Proofs.Ytmikconjhmhekaa

/- Contract: numbers from one on; plain facts on lists of indices. -/
namespace Go.Proofs.Ytmikconjhmhekaa
open Go.RowKit

set_option maxRecDepth 100000 in
set_option maxHeartbeats 4000000 in
theorem upTo_any (n : Nat) (hn : n ≤ 1000) (w : World) :
    Calls Try.prog 110 #[.int .i64 n] w fun e w' => ∃ B c, e = .returned (.slice B n c) ∧ Sp w w' [Own 3 1 (.slice B n c) n ((List.range n).map fun (j : Nat) => .int .i64 ((j : Int) + 1))] := by
  have S0 := Lib.hid ((Sp.start w).own_nil 3 1)
  obtain ⟨i0, hi, hz0, hz1, hz2⟩ := info_parts infoInt
  go_enter Try.func110, Try.ntmps110
  go_wp2_with fail
  go_loopw [3, 4] (fun vo vi wr => ∃ (k : Nat) (v : Int) (B : Option Addr) (cc : Nat), k ≤ n ∧ vi = .int .i64 v ∧ Hid (v = (k : Int) + 1) ∧ vo = .slice B k cc ∧ Hid (Sp w wr [Own 3 1 (.slice B k cc) k ((List.range k).map fun (j : Nat) => .int .i64 ((j : Int) + 1))])) (fun _ vi _ => n + 1 - (intOf vi).toNat)
  case atStart => exact ⟨0, 1, _, _, Nat.zero_le _, rfl, rfl, rfl, S0⟩
  case round =>
    obtain ⟨k, v, B, cc, hk, rfl, hve, rfl, HS⟩ := hrel
    clear S0
    have hve' := hve.out
    by_cases hlt : k < n
    · have hle : v ≤ (n : Int) := by omega
      have hw4 : IntKind.i64.wrap (v + 1) = v + 1 := by rw [IntWalk.i64_in _ (by omega)]
      have hk12 : k ≤ 1000 := by omega
      have hsn : Hid (((List.range (k + 1)).map fun (j : Nat) => Value.int .i64 ((j : Int) + 1)) = ((List.range k).map fun (j : Nat) => Value.int .i64 ((j : Int) + 1)) ++ [.int .i64 v]) := by
        unfold Hid; rw [List.range_succ, List.map_append, hve']; rfl
      clear hve'
      have S2 := HS.out.alloc_box #[.int .i64 v] 3
      have kB := S2.cell (i := 0) rfl (o := 0) rfl
      replace S2 := Lib.hid S2
      clear HS
      go_wp2_with (at_builtin; refine wpList_append_src rfl _ _ rfl Try.underlying30 hi hz0 hz1 hz2 rfl (by decide) _ _ _ rfl (S2.out.own (i := 1) rfl) _ 1 1 [.int .i64 v] rfl (Src.one kB) (by simp [Value.oneCell']) ?c3 ?c4 ?_)
      case c3 => unfold maxLen; omega
      case c4 => omega
      intro vY wY hownY hgY hatY
      have S4 := (S2.out.own_push (i := 1) rfl (bb _) hownY hgY (by simpa using hatY)).tail
      obtain ⟨aY, cY, rfl⟩ := own_slice hownY
      have HS3 : Hid (Sp w wY [Own 3 1 (.slice aY (k + 1) cY) (k + 1) ((List.range (k + 1)).map fun (j : Nat) => .int .i64 ((j : Int) + 1))]) := by
        unfold Hid; rw [hsn.out]; exact S4
      clear S2 S4 kB hownY hgY hatY hsn
      go_wp2_with fail
      go_roundw
      case rel => exact ⟨k + 1, v + 1, aY, cY, by omega, rfl, by have := hve.out; unfold Hid; omega, rfl, HS3⟩
      case measure => have := hve.out; simp [intOf]; omega
    · obtain rfl : k = n := by omega
      have hgt : ¬ v ≤ (k : Int) := by omega
      clear hve'
      go_wp2_with fail
      go_ret
      exact ⟨B, cc, rfl, HS.out⟩

/-- The first k numbers made less by one. -/
def decL (n k : Nat) : List Value := (List.range n).map fun (j : Nat) => .int .i64 (if j < k then (j : Int) else (j : Int) + 1)
theorem decL_zero (n : Nat) : decL n 0 = (List.range n).map fun (j : Nat) => .int .i64 ((j : Int) + 1) := by simp [decL]
theorem decL_all (n : Nat) : decL n n = (ofN (List.range n)).map (.int .i64) := by
  unfold decL ofN
  rw [List.map_map]
  apply List.map_congr_left
  intro j hj
  have := List.mem_range.1 hj
  simp [this]
theorem decL_len (n k : Nat) : (decL n k).length = n := by simp [decL]
theorem decL_at {n k : Nat} (h : k < n) : (decL n k)[k]? = some (.int .i64 ((k : Int) + 1)) := by simp [decL, h]
theorem decL_set {n k : Nat} (h : k < n) : (decL n k).set k (.int .i64 (k : Int)) = decL n (k + 1) := by
  apply List.ext_getElem?
  intro j
  rw [List.getElem?_set]
  by_cases hj : k = j
  · subst hj
    simp [decL, h]
  · rw [if_neg hj]
    by_cases hjn : j < n
    · simp only [decL, List.getElem?_map, List.getElem?_range hjn, Option.map_some]
      by_cases hjk : j < k
      · rw [if_pos hjk, if_pos (by omega)]
      · rw [if_neg hjk, if_neg (by omega)]
    · rw [List.getElem?_eq_none (by rw [decL_len]; omega), List.getElem?_eq_none (by rw [decL_len]; omega)]
/-- What is told of a core. -/
def coreOk (n : Nat) (vars : Int) (xss : List (List Int)) : Bool := goodB vars xss && !(List.range (2 ^ n)).any (modT xss)
def coreL (n : Nat) (xss : List (List Int)) : List Nat := coreGo (coreB n xss) [] (List.range xss.length)
theorem ofN_ok {m : Nat} (hm : m ≤ 1000000) {l : List Nat} (h : AscN m l) : ∀ x ∈ ofN l, I64 x := by
  intro x hx
  obtain ⟨i, hi, rfl⟩ := List.mem_map.1 hx
  have := h.2 i hi
  unfold I64; omega
theorem mid_at {kept rest : List Nat} {i : Nat} : (ofN (kept ++ i :: rest))[kept.length]? = some (i : Int) := by
  unfold ofN
  rw [List.getElem?_map, List.getElem?_append_right (Nat.le_refl _), Nat.sub_self]; rfl
theorem mid_no {m : Nat} {kept rest : List Nat} {i : Nat} (h : AscN m (kept ++ i :: rest)) : ∀ j, j < kept.length → (ofN (kept ++ i :: rest))[j]? ≠ some (i : Int) := by
  intro j hj e
  have hlt : kept[j] < i := (List.pairwise_append.1 h.1).2.2 _ (List.getElem_mem hj) i (by simp)
  unfold ofN at e
  rw [List.getElem?_map, List.getElem?_append_left hj, List.getElem?_eq_getElem hj] at e
  simp only [Option.map_some, Option.some.injEq, Int.natCast_inj] at e
  omega
theorem ofN_erase {kept rest : List Nat} {i : Nat} : (ofN (kept ++ i :: rest)).eraseIdx kept.length = ofN (kept ++ rest) := by
  unfold ofN
  rw [List.map_append, List.map_cons, List.map_append]
  have h : ((kept.map fun (i : Nat) => (i : Int)) ++ (i : Int) :: rest.map fun (i : Nat) => (i : Int)).eraseIdx (kept.map fun (i : Nat) => (i : Int)).length = (kept.map fun (i : Nat) => (i : Int)) ++ rest.map fun (i : Nat) => (i : Int) := by
    rw [List.eraseIdx_append_of_length_le (Nat.le_refl _), Nat.sub_self]; rfl
  rwa [List.length_map] at h
theorem range_front {n i : Nat} (h : i < n) : List.range' i (n - i) = i :: List.range' (i + 1) (n - (i + 1)) := by
  rw [show n - i = (n - (i + 1)) + 1 by omega, List.range'_succ]
theorem asc_len_from {m : Nat} : ∀ (l : List Nat) (a : Nat), l.Pairwise (· < ·) → (∀ x ∈ l, a ≤ x ∧ x < m) → a ≤ m → l.length + a ≤ m
  | [], a, _, _, h => by simpa using h
  | x :: l, a, hp, hx, _ => by
    rw [List.pairwise_cons] at hp
    have h0 := hx x (by simp)
    have := asc_len_from l (x + 1) hp.2 (fun y hy => ⟨hp.1 y hy, (hx y (List.mem_cons_of_mem _ hy)).2⟩) h0.2
    rw [List.length_cons]; omega
theorem asc_len {m : Nat} {l : List Nat} (h : AscN m l) : l.length ≤ m := by
  have := asc_len_from l 0 h.1 (fun x hx => ⟨Nat.zero_le _, h.2 x hx⟩) (Nat.zero_le _)
  omega
/-- A row of numbers with room, and whether it is told. -/
def IAnsC (w : World) (ok : Bool) (zs : List Int) (e : Ending) (w' : World) : Prop :=
  ∃ B cap, e = .returned (.tuple #[.slice B zs.length cap, .bool ok]) ∧ IntsAt w' B zs ∧ zs.length ≤ cap ∧ Below w.heap.size w w'
end Go.Proofs.Ytmikconjhmhekaa

/- Contracts: lists of indices in ascending order, on both sides. -/
namespace Go.Proofs.Ytmikconjhmhekaa
open Go.RowKit

/-- An index that fits, above the one ahead of it. -/
def rOk (m : Int) (l : List Int) (i : Nat) : Bool := inB (l.getD i 0) 0 (m - 1) && (i == 0 || decide (l.getD (i - 1) 0 < l.getD i 0))
def rOkTo (m : Int) (l : List Int) (k : Nat) : Bool := (List.range k).all (rOk m l)
theorem rOkTo_succ (m : Int) (l : List Int) (k : Nat) : rOkTo m l (k + 1) = (rOkTo m l k && rOk m l k) := by simp [rOkTo, List.range_succ]
def risB (m : Int) (l : List Int) : Bool := rOkTo m l l.length
theorem ris_no {m : Int} {l : List Int} {k : Nat} (hk : k < l.length) (h : rOk m l k = false) : risB m l = false := by
  unfold risB rOkTo
  rw [List.all_eq_false]
  exact ⟨k, List.mem_range.2 hk, by rw [h]; decide⟩
theorem ris_step {m : Int} {l : List Int} {k : Nat} (h0 : rOkTo m l k = true) (h : rOk m l k = true) : rOkTo m l (k + 1) = true := by rw [rOkTo_succ, h0, h]; rfl
theorem rOk_zero (m : Int) (l : List Int) (h : 0 < l.length) : rOk m l 0 = inB l[0] 0 (m - 1) := by simp [rOk, List.getD_eq_getElem?_getD, List.getElem?_eq_getElem h]
theorem rOk_succ (m : Int) (l : List Int) (k : Nat) (h : k + 1 < l.length) : rOk m l (k + 1) = (inB l[k + 1] 0 (m - 1) && decide ((l[k]'(by omega)) < l[k + 1])) := by
  simp [rOk, List.getD_eq_getElem?_getD, List.getElem?_eq_getElem h, List.getElem?_eq_getElem (show k < l.length by omega)]
theorem l1InB {x lo hi : Int} {q : Bool} (h : inB x lo hi = q) (w : World) : Calls Try.prog 169 #[.int .i64 x, .int .i64 lo, .int .i64 hi] w fun e w' => e = .returned (.bool q) ∧ Below w.heap.size w w' := h ▸ same_below (l1In_any x lo hi w)
theorem withinB {x lo hi : Int} {q : Bool} (h : inB x lo hi = q) (w : World) : Calls Try.prog 126 #[.int .i64 x, .int .i64 lo, .int .i64 hi] w fun e w' => e = .returned (.bool q) ∧ Below w.heap.size w w' := h ▸ same_below (within_any x lo hi w)

set_option maxRecDepth 100000 in
set_option maxHeartbeats 4000000 in
theorem l1Rising_any (A : Option Addr) (cap : Nat) (l : List Int) (m : Int) (w : World) (hx : IntsAt w A l) (hl : l.length ≤ 1000000) :
    Calls Try.prog 210 #[.slice A l.length cap, .int .i64 0, .int .i64 (m - 1)] w fun e w' => e = .returned (.bool (risB m l)) ∧ Below w.heap.size w w' := by
  have hX := Lib.hid hx
  have hd : Hid (risB m l = rOkTo m l l.length) := rfl
  obtain ⟨hi, hhi⟩ : ∃ hi, m - 1 = hi := ⟨_, rfl⟩
  rw [hhi]
  have hhiH := Lib.hid hhi
  clear hx hhi
  go_enter Try.func210, Try.ntmps210
  go_wp2_with fail
  go_loopw [7] (fun i wr => ∃ k : Nat, k ≤ l.length ∧ i = .int .i64 k ∧ Hid (rOkTo m l k = true) ∧ Hid (Below w.heap.size w wr)) (fun i _ => l.length - (intOf i).toNat)
  case atStart => exact ⟨0, Nat.zero_le _, rfl, by simp [Hid, rOkTo], bb _⟩
  case round =>
    obtain ⟨k, hk, rfl, HR, hB⟩ := hrel
    by_cases hlt : k < l.length
    · obtain ⟨b, off, rfl, m0⟩ := (hX.out.grow hB.out).at_ k hlt
      have k0 := cell_regrown m0
      cases hq : inB l[k] 0 hi
      · have HN : Hid (risB m l = false) := ris_no hlt (by unfold rOk; rw [List.getD_eq_getElem?_getD, List.getElem?_eq_getElem hlt, hhiH.out]; simp [hq])
        generalize l[k] = x at *
        clear m0
        go_wp2_with fail
        refine wp_region_quiet_below (by kernel_rfl) (by kernel_rfl) ?_
        repeat (any_goals (first | go_big_quiet_step ((go_at_call 169; exact Calls.regrown_of (l1InB hq _)))))
        refine wpQuiet_nil ?_
        rintro w1 ⟨p, rfl⟩
        have hB2 := Lib.hid (btr hB.out (below_regrown _ p.d p.os))
        clear hB k0
        go_wp2_with fail
        go_ret
        exact ⟨ret_bool HN.out.symm, hB2.out⟩
      rcases Nat.eq_zero_or_pos k with rfl | hpos
      · have HN : Hid (rOkTo m l (0 + 1) = true) := ris_step rfl (by rw [rOk_zero _ _ hlt, hhiH.out]; exact hq)
        rw [Nat.add_zero] at k0
        generalize l[0] = x at *
        clear HR m0
        go_wp2_with fail
        refine wp_region_quiet_below (by kernel_rfl) (by kernel_rfl) ?_
        repeat (any_goals (first | go_big_quiet_step ((go_at_call 169; exact Calls.regrown_of (l1InB hq _)))))
        refine wpQuiet_nil ?_
        rintro w1 ⟨p, rfl⟩
        have hB2 := Lib.hid (btr hB.out (below_regrown _ p.d p.os))
        clear hB k0
        go_wp2_with fail
        go_roundw
        case rel => exact ⟨0 + 1, by omega, by go_num, HN, hB2⟩
        case measure => simp [intOf]; omega
      have hj : k - 1 < l.length := by omega
      obtain ⟨b', off', e', m1⟩ := (hX.out.grow hB.out).at_ (k - 1) hj
      cases e'
      have k1 := cell_regrown m1
      have HS : rOk m l k = decide (l[k - 1] < l[k]) := by
        obtain ⟨j, rfl⟩ : ∃ j, k = j + 1 := ⟨k - 1, by omega⟩
        rw [rOk_succ m l j hlt, hhiH.out, hq, Bool.true_and]
        rfl
      generalize l[k - 1] = y at *
      generalize l[k] = x at *
      have hg : (0 : Int) < (k : Int) := by omega
      clear m0 m1
      by_cases hc : y < x
      · have HN : Hid (rOkTo m l (k + 1) = true) := ris_step HR.out (by rw [HS]; simpa using hc)
        clear HS HR
        go_wp2_with fail
        refine wp_region_quiet_below (by kernel_rfl) (by kernel_rfl) ?_
        repeat (any_goals (first | go_big_quiet_step ((go_at_call 169; exact Calls.regrown_of (l1InB hq _)))))
        refine wpQuiet_nil ?_
        rintro w1 ⟨p, rfl⟩
        have hB2 := Lib.hid (btr hB.out (below_regrown _ p.d p.os))
        clear hB k0 k1
        go_wp2_with fail
        go_roundw
        case rel => exact ⟨k + 1, by omega, by go_num, HN, hB2⟩
        case measure => simp [intOf]; omega
      · have HN : Hid (risB m l = false) := ris_no hlt (by rw [HS]; simpa using hc)
        clear HS HR
        go_wp2_with fail
        refine wp_region_quiet_below (by kernel_rfl) (by kernel_rfl) ?_
        repeat (any_goals (first | go_big_quiet_step ((go_at_call 169; exact Calls.regrown_of (l1InB hq _)))))
        refine wpQuiet_nil ?_
        rintro w1 ⟨p, rfl⟩
        have hB2 := Lib.hid (btr hB.out (below_regrown _ p.d p.os))
        clear hB k0 k1
        go_wp2_with fail
        go_ret
        exact ⟨ret_bool HN.out.symm, hB2.out⟩
    · obtain rfl : k = l.length := by omega
      have HN : Hid (risB m l = true) := hd.out.trans HR.out
      go_wp2_with fail
      go_ret
      exact ⟨ret_bool HN.out.symm, hB.out⟩

set_option maxRecDepth 100000 in
set_option maxHeartbeats 4000000 in
theorem indicesOk_any (vars : Int) (B : Option Addr) (m bc : Nat) (hm : m ≤ 1000000) (A : Option Addr) (cap : Nat) (l : List Int) (w : World) (hx : IntsAt w A l) (hl : l.length ≤ 1000000) :
    Calls Try.prog 119 #[.agg #[.int .i64 vars, .slice B m bc], .slice A l.length cap] w fun e w' => e = .returned (.bool (risB m l)) ∧ Below w.heap.size w w' := by
  have hX := Lib.hid hx
  have hd : Hid (risB m l = rOkTo m l l.length) := rfl
  obtain ⟨hi, hhi⟩ : ∃ hi : Int, (m : Int) - 1 = hi := ⟨_, rfl⟩
  have hw0 : IntKind.i64.wrap ((m : Int) - 1) = hi := by rw [← hhi]; exact IntWalk.i64_in _ (by omega)
  have hhiH := Lib.hid hhi
  have S0 := Lib.hid ((Sp.start w).alloc_box #[.int .i64 vars, .slice B m bc] 26)
  clear hx hhi
  go_enter Try.func119, Try.ntmps119
  go_wp2_with fail
  go_loopw [5, 6, 9] (fun _ _ i wr => ∃ k : Nat, k ≤ l.length ∧ i = .int .i64 k ∧ Hid (rOkTo m l k = true) ∧ Hid (Sp w wr [Box w.heap.size 26 #[.int .i64 vars, .slice B m bc]])) (fun _ _ i _ => l.length - (intOf i).toNat)
  case atStart => exact ⟨0, Nat.zero_le _, rfl, by simp [Hid, rOkTo], S0⟩
  case round =>
    obtain ⟨k, hk, rfl, HR, HS⟩ := hrel
    clear S0
    have c1 := HS.out.cell (i := 0) rfl (o := 1) rfl
    by_cases hlt : k < l.length
    · obtain ⟨b, off, rfl, m0⟩ := (hX.out.grow HS.out.below).at_ k hlt
      cases hq : inB l[k] 0 hi
      · have HN : Hid (risB m l = false) := ris_no hlt (by unfold rOk; rw [List.getD_eq_getElem?_getD, List.getElem?_eq_getElem hlt, hhiH.out]; simp [hq])
        generalize l[k] = x at *
        go_wp2_with fail
        refine (withinB hq _).mono ?_
        rintro e w1 ⟨rfl, hb1⟩
        have hB2 := Lib.hid (HS.out.grow hb1).below
        clear HS c1 m0 hb1
        go_wp2_with fail
        go_ret
        exact ⟨ret_bool HN.out.symm, hB2.out⟩
      rcases Nat.eq_zero_or_pos k with rfl | hpos
      · have HN : Hid (rOkTo m l (0 + 1) = true) := ris_step rfl (by rw [rOk_zero _ _ hlt, hhiH.out]; exact hq)
        rw [Nat.add_zero] at m0
        generalize l[0] = x at *
        clear HR
        go_wp2_with fail
        refine (withinB hq _).mono ?_
        rintro e w1 ⟨rfl, hb1⟩
        have S2 := Lib.hid (HS.out.grow hb1)
        clear HS c1 m0 hb1
        go_wp2_with fail
        go_roundw
        case rel => exact ⟨0 + 1, by omega, by go_num, HN, S2⟩
        case measure => simp [intOf]; omega
      have hj : k - 1 < l.length := by omega
      obtain ⟨b', off', e', m1⟩ := (hX.out.grow HS.out.below).at_ (k - 1) hj
      cases e'
      have HSt : rOk m l k = decide (l[k - 1] < l[k]) := by
        obtain ⟨j, rfl⟩ : ∃ j, k = j + 1 := ⟨k - 1, by omega⟩
        rw [rOk_succ m l j hlt, hhiH.out, hq, Bool.true_and]
        rfl
      generalize l[k - 1] = y at *
      generalize l[k] = x at *
      have hg : (0 : Int) < (k : Int) := by omega
      by_cases hc : y < x
      · have HN : Hid (rOkTo m l (k + 1) = true) := ris_step HR.out (by rw [HSt]; simpa using hc)
        clear HSt HR
        go_wp2_with fail
        refine (withinB hq _).mono ?_
        rintro e w1 ⟨rfl, hb1⟩
        have m2 := ((bcell hb1).1 _ _ (World.block_lt_of_cell? _ _ m1)).trans m1
        have S2 := Lib.hid (HS.out.grow hb1)
        clear HS c1 m0 hb1 m1
        go_wp2_with fail
        go_roundw
        case rel => exact ⟨k + 1, by omega, by go_num, HN, S2⟩
        case measure => simp [intOf]; omega
      · have HN : Hid (risB m l = false) := ris_no hlt (by rw [HSt]; simpa using hc)
        clear HSt HR
        go_wp2_with fail
        refine (withinB hq _).mono ?_
        rintro e w1 ⟨rfl, hb1⟩
        have m2 := ((bcell hb1).1 _ _ (World.block_lt_of_cell? _ _ m1)).trans m1
        have hB2 := Lib.hid (HS.out.grow hb1).below
        clear HS c1 m0 hb1 m1
        go_wp2_with fail
        go_ret
        exact ⟨ret_bool HN.out.symm, hB2.out⟩
    · obtain rfl : k = l.length := by omega
      have HN : Hid (risB m l = true) := hd.out.trans HR.out
      have hB2 := Lib.hid HS.out.below
      clear HS
      go_wp2_with fail
      go_ret
      exact ⟨ret_bool HN.out.symm, hB2.out⟩
theorem ris_bound {m : Int} {l : List Int} (h : risB m l = true) {i : Nat} (hi : i < l.length) : 0 ≤ l[i] ∧ l[i] ≤ m - 1 := by
  have h2 := List.all_eq_true.1 h i (List.mem_range.2 hi)
  unfold rOk at h2
  rw [Bool.and_eq_true, List.getD_eq_getElem?_getD, List.getElem?_eq_getElem hi] at h2
  exact inB_true.1 h2.1
theorem ris_lt {m : Int} {l : List Int} (h : risB m l = true) {i : Nat} (hi : i + 1 < l.length) : l[i]'(by omega) < l[i + 1] := by
  have h2 := List.all_eq_true.1 h (i + 1) (List.mem_range.2 hi)
  rw [rOk_succ _ _ _ hi, Bool.and_eq_true] at h2
  exact of_decide_eq_true h2.2
/-- A list of indices that is valid, as natural numbers. -/
theorem ris_nat {m : Nat} {l : List Int} (h : risB m l = true) : ∃ is : List Nat, l = ofN is ∧ AscN m is := by
  refine ⟨l.map Int.toNat, ?_, ?_, ?_⟩
  · unfold ofN
    rw [List.map_map]
    apply List.ext_getElem
    · simp
    · intro i h1 h2
      have := ris_bound h h1
      simp only [List.getElem_map, Function.comp]
      omega
  · have hp : l.Pairwise (fun a b => a.toNat < b.toNat) := by
      have hmono : ∀ d i, i + d + 1 < l.length → ∀ (h1 : i < l.length) (h2 : i + d + 1 < l.length), l[i] < l[i + d + 1] := by
        intro d
        induction d with
        | zero => intro i _ h1 h2; exact ris_lt h h2
        | succ d ih =>
          intro i hh h1 h2
          have a := ih i (by omega) h1 (by omega)
          have b := ris_lt h (i := i + d + 1) (by omega)
          exact Int.lt_trans a b
      rw [List.pairwise_iff_getElem]
      intro i j hi hj hij
      have a := hmono (j - i - 1) i (by omega) hi (by omega)
      have e : i + (j - i - 1) + 1 = j := by omega
      simp only [e] at a
      have b1 := ris_bound h hi
      have b2 := ris_bound h hj
      omega
    exact List.pairwise_map.2 hp
  · intro i hi
    obtain ⟨x, hx, rfl⟩ := List.mem_map.1 hi
    obtain ⟨j, hj, rfl⟩ := List.getElem_of_mem hx
    have := ris_bound h hj
    omega
end Go.Proofs.Ytmikconjhmhekaa

/- Contracts: the sides of a Cnf, in the reference. -/
namespace Go.Proofs.Ytmikconjhmhekaa
open Go.RowKit

set_option maxHeartbeats 1000000 in
theorem l1HasI_any (xs : List Int) (A : Option Addr) (cap : Nat) (x : Int) (w : World) (hx : IntsAt w A xs) (hl : xs.length ≤ 1000000) :
    Calls Try.prog 193 #[.slice A xs.length cap, .int .i64 x] w fun e w' => e = .returned (.bool (hasI xs x)) ∧ w = w' := by
  have hX := Lib.hid hx
  clear hx
  go_enter Try.func193, Try.ntmps193
  go_wp2_with fail
  go_loopw [5] (fun i wr => ∃ k : Nat, k ≤ xs.length ∧ i = .int .i64 k ∧ Hid (hasI (xs.take k) x = false) ∧ w = wr) (fun i _ => xs.length - (intOf i).toNat)
  case atStart => exact ⟨0, Nat.zero_le _, rfl, by simp [Hid, hasI], rfl⟩
  case round =>
    obtain ⟨k, hk, rfl, HR, rfl⟩ := hrel
    by_cases hlt : k < xs.length
    · obtain ⟨b, off, rfl, k0⟩ := hX.out.at_ k hlt
      by_cases he : xs[k] = x
      · have HN : Hid (hasI xs x = true) := hasI_yes hlt he
        have he' : (xs[k] == x) = true := by simpa using he
        clear he HR
        go_wp2_with fail
        go_ret
        exact ⟨ret_bool HN.out.symm, rfl⟩
      · have HN : Hid (hasI (xs.take (k + 1)) x = false) := hasI_no hlt HR.out he
        have he' : (xs[k] == x) = false := by simpa using he
        clear he HR
        go_wp2_with fail
        go_roundw
        case rel => exact ⟨k + 1, by omega, by go_num, HN, by first | rfl | trivial⟩
        case measure => simp [intOf]; omega
    · obtain rfl : k = xs.length := by omega
      have HN := HR.out
      rw [List.take_length] at HN
      replace HN := Lib.hid HN
      clear HR
      go_wp2_with fail
      go_ret
      exact ⟨ret_bool HN.out.symm, rfl⟩

set_option maxHeartbeats 1000000 in
theorem l2HasI_any (xs : List Int) (A : Option Addr) (cap : Nat) (x : Int) (w : World) (hx : IntsAt w A xs) (hl : xs.length ≤ 1000000) :
    Calls Try.prog 101 #[.slice A xs.length cap, .int .i64 x] w fun e w' => e = .returned (.bool (hasI xs x)) ∧ w = w' := by
  have hc := Lib.hid (l1HasI_any xs A cap x w hx hl)
  clear hx
  go_enter Try.func101, Try.ntmps101
  go_wp2_with fail
  refine hc.out.mono ?_
  rintro e w1 ⟨rfl, rfl⟩
  go_wp2_with fail
  go_ret
  exact ⟨rfl, rfl⟩

/-- A literal is in some clause. -/
def occB (cls : List (List Int)) (l : Int) : Bool := cls.any fun c => hasI c l
theorem occ_used {cls : List (List Int)} {v : Nat} : (occB cls v || occB cls (-v)) = usedB cls v := by
  unfold occB usedB hasI
  rw [Bool.eq_iff_iff]
  simp only [Bool.or_eq_true, List.any_eq_true, List.contains_iff_mem, beq_iff_eq]
  constructor
  · rintro (⟨c, hc, h⟩ | ⟨c, hc, h⟩)
    · exact ⟨c, hc, _, h, by simp⟩
    · exact ⟨c, hc, _, h, by simp⟩
  · rintro ⟨c, hc, l, hl, rfl⟩
    rcases Int.natAbs_eq l with e | e
    · exact .inl ⟨c, hc, by rw [← e]; exact hl⟩
    · exact .inr ⟨c, hc, by rw [← e]; exact hl⟩
theorem occ_yes {cls : List (List Int)} {l : Int} {k : Nat} (hk : k < cls.length) (h : hasI cls[k] l = true) : occB cls l = true := List.any_eq_true.2 ⟨_, List.getElem_mem hk, h⟩
theorem occ_no {cls : List (List Int)} {l : Int} {k : Nat} (hk : k < cls.length) (h0 : occB (cls.take k) l = false) (h : hasI cls[k] l = false) : occB (cls.take (k + 1)) l = false := by
  unfold occB at *
  rw [List.take_succ_eq_append_getElem hk, List.any_append, h0]
  simp [h]

set_option maxHeartbeats 1000000 in
theorem l2Occurs_any (cls : List (List Int)) (A : Option Addr) (cap : Nat) (l : Int) (w : World) (hx : ClsAt w A cls) (hl : cls.length ≤ 1000000) (hs : ∀ c ∈ cls, c.length ≤ 1000000) :
    Calls Try.prog 257 #[.slice A cls.length cap, .int .i64 l] w fun e w' => e = .returned (.bool (occB cls l)) ∧ w = w' := by
  have hX := Lib.hid hx
  have hS := Lib.hid hs
  clear hx hs
  go_enter Try.func257, Try.ntmps257
  go_wp2_with fail
  go_loopw [5] (fun i wr => ∃ k : Nat, k ≤ cls.length ∧ i = .int .i64 k ∧ Hid (occB (cls.take k) l = false) ∧ w = wr) (fun i _ => cls.length - (intOf i).toNat)
  case atStart => exact ⟨0, Nat.zero_le _, rfl, by simp [Hid, occB], rfl⟩
  case round =>
    obtain ⟨k, hk, rfl, HR, rfl⟩ := hrel
    by_cases hlt : k < cls.length
    · obtain ⟨b, off, B, cc, rfl, k0, hI⟩ := hX.out.at_ k hlt
      have hcall := Lib.hid (l2HasI_any cls[k] B cc l w hI (hS.out _ (List.getElem_mem hlt)))
      have hy := Lib.hid (fun h => occ_yes (l := l) hlt h)
      have hno := Lib.hid (fun h => occ_no (l := l) hlt HR.out h)
      obtain ⟨q, hq⟩ : ∃ q, hasI cls[k] l = q := ⟨_, rfl⟩
      rw [hq] at hcall hy hno
      generalize cls[k] = c at *
      clear hI hq HR
      go_wp2_with fail
      refine hcall.out.mono ?_
      rintro e w1 ⟨rfl, rfl⟩
      clear hcall
      cases q
      · have HN := Lib.hid (hno.out rfl)
        clear hno hy
        go_wp2_with fail
        go_roundw
        case rel => exact ⟨k + 1, by omega, by go_num, HN, by first | rfl | trivial⟩
        case measure => simp [intOf]; omega
      · have HN := Lib.hid (hy.out rfl)
        clear hno hy
        go_wp2_with fail
        go_ret
        exact ⟨ret_bool HN.out.symm, rfl⟩
    · obtain rfl : k = cls.length := by omega
      have HN := HR.out
      rw [List.take_length] at HN
      replace HN := Lib.hid HN
      clear HR
      go_wp2_with fail
      go_ret
      exact ⟨ret_bool HN.out.symm, rfl⟩

theorem ClsAt.to {w : World} {A : Option Addr} {cls : List (List Int)} (h : ClsAt w A cls) (k : Nat) : ClsAt w A (cls.take k) := ⟨fun j hj => by
  have hj2 : j < cls.length := by rw [List.length_take] at hj; omega
  obtain ⟨b, off, B, c, e, h1, h2⟩ := h.at_ j hj2
  exact ⟨b, off, B, c, e, by rw [List.getElem_take]; exact h1, by rw [List.getElem_take]; exact h2⟩⟩
theorem ClsAt.from {w : World} {A : Option Addr} {cls : List (List Int)} {cap : Nat} (h : ClsAt w A cls) (k : Nat) (hc : cls.length ≤ cap) : ClsAt w (cutA A cap k 1) (cls.drop k) := ⟨fun j hj => by
  rw [List.length_drop] at hj
  obtain ⟨b, off, B, c, e, h1, h2⟩ := h.at_ (k + j) (by omega)
  subst e
  refine ⟨b, off + k, B, c, ?_, ?_, ?_⟩
  · unfold cutA
    rw [if_neg (by omega), Option.map_some, add_none, Nat.mul_one]
  · rw [List.getElem_drop, Nat.add_assoc]; exact h1
  · rw [List.getElem_drop]; exact h2⟩

/-- A side is asked for. -/
def askB (vars : Int) (xss : List (List Int)) (k : Int) : Bool := goodB vars xss && inB k 0 xss.length

set_option maxHeartbeats 2000000 in
theorem l29Asked_any (vars : Int) (v : Value) (xss : List (List Int)) (k : Int) (F : List Nat) (w : World) (hx : (Ty.slice Ty.int).row false w v xss F) :
    Calls Try.prog 157 #[.agg #[.int .i64 vars, v], .int .i64 k] w fun e w' => e = .returned (.bool (askB vars xss k)) ∧ Below w.heap.size w w' := by
  obtain ⟨A, cap, rfl, hI⟩ := cls_row hx
  have S0 := (Sp.start w).alloc_box #[.int .i64 vars, .slice A xss.length cap] 26
  have hcall := Lib.hid (l2Good_any vars _ xss F _ (Ty.row_below hx S0.below (Ty.row_lt hx)))
  replace S0 := Lib.hid S0
  have c0 := S0.out.cell (i := 0) rfl (o := 0) rfl
  have c1 := S0.out.cell (i := 0) rfl (o := 1) rfl
  have hin := Lib.hid (fun W => l1InB (x := k) (lo := 0) (hi := xss.length) rfl W)
  unfold askB
  generalize inB k 0 xss.length = q2 at *
  generalize goodB vars xss = q1 at *
  clear hx hI
  cases q1
  · go_enter Try.func157, Try.ntmps157
    go_wp2_with fail
    refine hcall.out.mono ?_
    rintro e w1 ⟨rfl, hb1⟩
    have hB := Lib.hid (S0.out.grow hb1).below
    clear hcall S0 c0 c1 hb1
    go_wp2_with fail
    go_ret
    exact ⟨rfl, hB.out⟩
  · go_enter Try.func157, Try.ntmps157
    go_wp2_with fail
    refine hcall.out.mono ?_
    rintro e w1 ⟨rfl, hb1⟩
    have S1 := Lib.hid (S0.out.grow hb1)
    clear hcall S0 c0 c1 hb1
    have c1 := S1.out.cell (i := 0) rfl (o := 1) rfl
    go_wp2_with fail
    refine (hin.out _).mono ?_
    rintro e w2 ⟨rfl, hb2⟩
    have hB := Lib.hid (S1.out.grow hb2).below
    clear hin S1 c1 hb2
    go_wp2_with fail
    go_ret
    exact ⟨rfl, hB.out⟩

set_option maxRecDepth 100000 in
set_option maxHeartbeats 4000000 in
theorem l29Left_any (vars : Int) (A : Option Addr) (cap : Nat) (xss : List (List Int)) (k v : Nat) (w : World) (hx : ClsAt w A xss) (hl : xss.length ≤ 1000) (hs : ∀ c ∈ xss, c.length ≤ 1000000) (hk : k ≤ xss.length) (hcap : xss.length ≤ cap) (hv : v ≤ 1000) :
    Calls Try.prog 232 #[.agg #[.int .i64 vars, .slice A xss.length cap], .int .i64 k, .int .i64 v] w fun e w' => e = .returned (.tuple #[.bool (usedB (xss.take k) v), .bool (usedB (xss.drop k) v)]) ∧ Below w.heap.size w w' := by
  obtain ⟨i0, hi0, -, hz1, -⟩ := info_parts infoRow
  have S0 := Lib.hid ((Sp.start w).alloc_box #[.int .i64 vars, .slice A xss.length cap] 26)
  have hX := hx
  have p1 := fun W (h : Below w.heap.size w W) l => l2Occurs_any (xss.take k) A cap l W ((hx.grow h).to k) (by rw [List.length_take]; omega) (fun c hc => hs c (List.mem_of_mem_take hc))
  have p2 := fun W (h : Below w.heap.size w W) l => l2Occurs_any (xss.drop k) (cutA A cap k 1) (cap - k) l W ((hx.grow h).from k hcap) (by rw [List.length_drop]; omega) (fun c hc => hs c (List.mem_of_mem_drop hc))
  rw [show (xss.take k).length = k by rw [List.length_take]; omega] at p1
  rw [show (xss.drop k).length = xss.length - k by rw [List.length_drop]] at p2
  rw [← occ_used, ← occ_used]
  have hn : IntKind.i64.wrap (-(v : Int)) = -(v : Int) := IntWalk.i64_in _ (by omega)
  obtain ⟨zv, hzv⟩ : ∃ n : Int, (v : Int) = n := ⟨_, rfl⟩
  rw [hzv] at hn ⊢
  obtain ⟨nv, hnv⟩ : ∃ n : Int, -zv = n := ⟨_, rfl⟩
  have hn2 : IntKind.i64.wrap (-zv) = nv := hn.trans hnv
  rw [hnv]
  clear hn
  have pa := Lib.hid (fun W h => p1 W h zv)
  have pb := Lib.hid (fun W h => p1 W h nv)
  have pc := Lib.hid (fun W h => p2 W h zv)
  have pd := Lib.hid (fun W h => p2 W h nv)
  clear p1 p2 hX hx hs
  generalize occB (xss.take k) zv = a at *
  generalize occB (xss.take k) nv = b at *
  generalize occB (xss.drop k) zv = c at *
  generalize occB (xss.drop k) nv = d at *
  replace hnv := Lib.hid hnv
  replace hzv := Lib.hid hzv
  obtain ⟨m, hm⟩ : ∃ m, xss.length = m := ⟨_, rfl⟩
  rw [hm] at S0 hk hl hcap pc pd ⊢
  clear hm
  have c1 := S0.out.cell (i := 0) rfl (o := 1) rfl
  have hk0 : (0 : Int) ≤ (k : Int) := by omega
  go_enter Try.func232, Try.ntmps232
  go_wp2_with fail
  refine wp_region_held_lit (S := (fun w' => w'.cell? ⟨w.heap.size, 1, none⟩ = some (.slice A m cap))) 10 [false, false, false, false, false, false, false, false, false, false] (by kernel_rfl) (by kernel_rfl) (by kernel_rfl) ?_ ?_
  · exact c1
  intro hSc
  (refine wpAnyH_take (i := 0) (v := ?_) rfl (by kernel_rfl) (by kernel_rfl) (by kernel_rfl) (fun _ _ _ h => h) (Or.inl ⟨by rfl, ?_⟩) (by assumption) ?_; rotate_left; (focus (intro w hSw; (try dsimp only at hSw); go_simp; (try with_reducible rfl); done)); (try simp only [put_rules]))
  (refine wpAnyH_take (i := 1) (v := ?_) rfl (by kernel_rfl) (by kernel_rfl) (by kernel_rfl) (fun _ _ _ h => h) (Or.inl ⟨by rfl, ?_⟩) (by assumption) ?_; rotate_left; (focus (intro w hSw; (try dsimp only at hSw); go_simp; (try with_reducible rfl); done)); (try simp only [put_rules]))
  (refine wpAnyH_take (i := 2) (v := ?_) rfl (by kernel_rfl) (by kernel_rfl) (by kernel_rfl) (fun _ _ _ h => h) (Or.inl ⟨by rfl, ?_⟩) (by assumption) ?_; rotate_left; (focus (intro w hSw; (try dsimp only at hSw); go_simp; (try with_reducible rfl); done)); (try simp only [put_rules]))
  (refine wpAnyH_take (i := 3) (v := .slice A k cap) rfl (by kernel_rfl) (by kernel_rfl) (by kernel_rfl) (fun _ _ _ h => h) (Or.inl ⟨by rfl, fun _ _ => exec_slice_to rfl rfl rfl Try.underlying24 hi0 (by omega)⟩) (by assumption) ?_; (try simp only [put_rules]))
  (refine wpAnyH_take (i := 4) (v := ?_) rfl (by kernel_rfl) (by kernel_rfl) (by kernel_rfl) (fun _ _ _ h => h) (Or.inl ⟨by rfl, ?_⟩) (by assumption) ?_; rotate_left; (focus (intro w hSw; (try dsimp only at hSw); go_simp; (try with_reducible rfl); done)); (try simp only [put_rules]))
  (refine wpAnyH_take (i := 5) (v := ?_) rfl (by kernel_rfl) (by kernel_rfl) (by kernel_rfl) (fun _ _ _ h => h) (Or.inl ⟨by rfl, ?_⟩) (by assumption) ?_; rotate_left; (focus (intro w hSw; (try dsimp only at hSw); go_simp; (try with_reducible rfl); done)); (try simp only [put_rules]))
  (refine wpAnyH_take (i := 6) (v := ?_) rfl (by kernel_rfl) (by kernel_rfl) (by kernel_rfl) (fun _ _ _ h => h) (Or.inl ⟨by rfl, ?_⟩) (by assumption) ?_; rotate_left; (focus (intro w hSw; (try dsimp only at hSw); go_simp; (try with_reducible rfl); done)); (try simp only [put_rules]))
  (refine wpAnyH_take (i := 7) (v := .slice (cutA A cap k 1) (m - k) (cap - k)) rfl (by kernel_rfl) (by kernel_rfl) (by kernel_rfl) (fun _ _ _ h => h) (Or.inl ⟨by rfl, fun _ _ => exec_slice_from rfl rfl rfl Try.underlying24 hi0 hz1 (by omega)⟩) (by assumption) ?_; (try simp only [put_rules]))
  (refine wpAnyH_take (i := 8) (v := ?_) rfl (by kernel_rfl) (by kernel_rfl) (by kernel_rfl) (fun _ _ _ h => h) (Or.inl ⟨by rfl, ?_⟩) (by assumption) ?_; rotate_left; (focus (intro w hSw; (try dsimp only at hSw); go_simp; (try with_reducible rfl); done)); (try simp only [put_rules]))
  (refine wpAnyH_take (i := 9) (v := ?_) rfl (by kernel_rfl) (by kernel_rfl) (by kernel_rfl) (fun _ _ _ h => h) (Or.inl ⟨by rfl, ?_⟩) (by assumption) ?_; rotate_left; (focus (intro w hSw; (try dsimp only at hSw); go_simp; (try with_reducible rfl); done)); (try simp only [put_rules]))
  (refine wpAnyH_done (by kernel_rfl) ?_ _)
  (try simp only [put_rules])
  have hB0 := Lib.hid S0.out.drew.below
  clear S0 c1 hSc
  cases a <;> cases c
  · go_wp2_with fail
    refine (pa.out _ hB0.out).mono ?_
    rintro e w1 ⟨rfl, rfl⟩
    go_wp2_with fail
    refine (pb.out _ hB0.out).mono ?_
    rintro e w1 ⟨rfl, rfl⟩
    go_wp2_with fail
    refine (pc.out _ hB0.out).mono ?_
    rintro e w1 ⟨rfl, rfl⟩
    go_wp2_with fail
    refine (pd.out _ hB0.out).mono ?_
    rintro e w1 ⟨rfl, rfl⟩
    go_wp2_with fail
    go_ret2
    exact ⟨rfl, hB0.out⟩
  · go_wp2_with fail
    refine (pa.out _ hB0.out).mono ?_
    rintro e w1 ⟨rfl, rfl⟩
    go_wp2_with fail
    refine (pb.out _ hB0.out).mono ?_
    rintro e w1 ⟨rfl, rfl⟩
    go_wp2_with fail
    refine (pc.out _ hB0.out).mono ?_
    rintro e w1 ⟨rfl, rfl⟩
    go_wp2_with fail
    go_ret2
    exact ⟨rfl, hB0.out⟩
  · go_wp2_with fail
    refine (pa.out _ hB0.out).mono ?_
    rintro e w1 ⟨rfl, rfl⟩
    go_wp2_with fail
    refine (pc.out _ hB0.out).mono ?_
    rintro e w1 ⟨rfl, rfl⟩
    go_wp2_with fail
    refine (pd.out _ hB0.out).mono ?_
    rintro e w1 ⟨rfl, rfl⟩
    go_wp2_with fail
    go_ret2
    exact ⟨rfl, hB0.out⟩
  · go_wp2_with fail
    refine (pa.out _ hB0.out).mono ?_
    rintro e w1 ⟨rfl, rfl⟩
    go_wp2_with fail
    refine (pc.out _ hB0.out).mono ?_
    rintro e w1 ⟨rfl, rfl⟩
    go_wp2_with fail
    go_ret2
    exact ⟨rfl, hB0.out⟩
end Go.Proofs.Ytmikconjhmhekaa
