/- Lemmas and contracts for a law, put together out of several texts: MdR CoD RsA SdA SdB OwnS SdC CoE CoI SdD SdE SdF SdG SdH SdI MdG MdH MdI MdJ CoF CoG. -/
import Derived.Test.YtnfjgebfmnpkbaaGreatMg2
import Derived.Test.YtnfjgebfmnpkbaaGreatMg1
import Derived.Test.YtnfjgebfmnpkbaaGreatMg3
import Derived.Lib.SliceRun
import Derived.Lib.Hide
import Derived.Shelf.SlicesE.Kit
import Derived.Shelf.SlicesE.Delete
import Derived.Deep.QuietTactic
import Derived.BigQuiet
import Derived.Lib.QuietBelow
import Derived.Test.YtnfjgebfmnpkbaaGreatShelf
import Derived.Sort.OwnSortedInts
import Derived.Lib.SlicesCompact
import Derived.Lib.RowBridge
/- Contract: slices.DeleteFunc at an own row of numbers, with a function that may make memory. -/
namespace Go.Proofs.YtnfjgebfmnpkbaaGreat
open Go.RowKit

theorem set_get {α : Type} {l : List α} {i : Nat} {q : α} (h : l[i]? = some q) : l.set i q = l := by
  apply List.ext_getElem?
  intro j
  rw [List.getElem?_set]
  split
  · rename_i e
    subst e
    have := (List.getElem?_eq_some_iff.1 h).1
    rw [if_pos this, h]
  · rfl
theorem set_at {α : Type} {l : List α} {i : Nat} {q : α} (h : l[i]? = some q) (p : α) : (l.set i p)[i]? = some p := by
  have := (List.getElem?_eq_some_iff.1 h).1
  rw [List.getElem?_set_self this]
theorem Sp.own_puts {w0 : World} {g cap n size : Nat} {e : TypeId} {i : Nat} : ∀ (us : List Value) (o : Nat) (w : World) (ps : List Asn) (xs : List Value), Sp w0 w ps → ps[i]? = some (Own e size (.slice (some ⟨g, 0, none⟩) n cap) n xs) → o + us.length ≤ n * size →
    ∃ xs', Sp w0 (w.setCells g o us) (ps.set i (Own e size (.slice (some ⟨g, 0, none⟩) n cap) n xs')) ∧ xs'.take o = xs.take o ∧ Chg [g] w (w.setCells g o us)
  | [], o, w, ps, xs, h, hi, _ => ⟨xs, by rw [set_get hi]; exact h, rfl, Chg.refl _ _⟩
  | u :: us, o, w, ps, xs, h, hi, hl => by
    have h1 := h.own_put hi u (o := o) (by simp at hl; omega)
    obtain ⟨xs', h2, h3, h4⟩ := Sp.own_puts us (o + 1) _ _ _ h1 (set_at hi _) (by simp at hl; omega)
    refine ⟨xs', by rw [World.setCells]; rwa [List.set_set] at h2, ?_, by rw [World.setCells]; exact ((Chg.refl [g] w).set (p := ⟨g, o, none⟩) (by simp) u).trans h4⟩
    have := congrArg (List.take o) h3
    rw [List.take_take, List.take_take, Nat.min_eq_left (by omega)] at this
    rw [this, List.take_set_of_le (Nat.le_refl _)]
theorem Sp.own_cut {w0 w : World} {g cap n m : Nat} {e : TypeId} {i : Nat} {ps : List Asn} {xs : List Value} (h : Sp w0 w ps) (hi : ps[i]? = some (Own e 1 (.slice (some ⟨g, 0, none⟩) n cap) n xs)) (hm : m ≤ n) : Sp w0 w (ps.set i (Own e 1 (.slice (some ⟨g, 0, none⟩) m cap) m (xs.take m))) := by
  obtain ⟨F, ⟨rfl, hl, hh⟩, hF, hall⟩ := h.upd hi
  refine hall _ _ [g] (Chg.refl _ _) ⟨rfl, by rw [List.length_take, hl]; omega, .inr ?_⟩ (fun b hb => .inl hb)
  rcases hh with ⟨h1, _⟩ | ⟨g', cap', cur, e1, h0, hg, hn, hmx, hc, ht⟩
  · cases h1
  · simp only [Value.slice.injEq, Option.some.injEq, Addr.mk.injEq] at e1
    obtain ⟨⟨rfl, _⟩, _, rfl⟩ := e1
    refine ⟨g, cap, cur, rfl, Nat.zero_le _, hg, by omega, hmx, hc, ?_⟩
    rw [← ht, List.take_take, Nat.mul_one, Nat.mul_one, Nat.min_eq_left hm]
/-- The state of DeleteFunc's loop: i kept elements stand ahead, from j on nothing has turned. -/
def DelInv (p : Int → Bool) (xs : List Int) (i j : Nat) (ys : List Value) : Prop :=
  i < j ∧ ys.length = xs.length ∧ ys.take i = ((xs.take j).filter fun x => !p x).map (.int .i64) ∧ i = ((xs.take j).filter fun x => !p x).length ∧ ∀ k, j ≤ k → ys[k]? = (xs.map (Value.int .i64))[k]?
theorem DelInv.start {p : Int → Bool} {xs : List Int} {k : Nat} (hk : k < xs.length) (h1 : p xs[k] = true) (h0 : (xs.take k).any p = false) : DelInv p xs k (k + 1) (xs.map (.int .i64)) := by
  have hf : ((xs.take (k + 1)).filter fun x => !p x) = xs.take k := by
    rw [List.take_succ_eq_append_getElem hk, List.filter_append, List.filter_eq_self.2]
    · simp [h1]
    · intro x hx
      have := List.any_eq_false.1 h0 x hx
      simpa using this
  exact ⟨by omega, by simp, by rw [hf, List.map_take], by rw [hf, List.length_take]; omega, fun _ _ => rfl⟩
theorem DelInv.keep {p : Int → Bool} {xs : List Int} {i j : Nat} {ys : List Value} (h : DelInv p xs i j ys) (hj : j < xs.length) (h1 : p xs[j] = false) : DelInv p xs (i + 1) (j + 1) (ys.set i (.int .i64 xs[j])) := by
  obtain ⟨a1, a2, a3, a4, a5⟩ := h
  have hf : ((xs.take (j + 1)).filter fun x => !p x) = ((xs.take j).filter fun x => !p x) ++ [xs[j]] := by
    rw [List.take_succ_eq_append_getElem hj, List.filter_append]
    simp [h1]
  refine ⟨by omega, by simp [a2], ?_, by rw [hf]; simp [← a4], fun k hk => ?_⟩
  · rw [hf, List.map_append, ← a3, List.take_succ_eq_append_getElem (by simp; omega), List.take_set_of_le (Nat.le_refl _)]
    simp
  · rw [List.getElem?_set_ne (by omega)]
    exact a5 k (by omega)
theorem DelInv.skip {p : Int → Bool} {xs : List Int} {i j : Nat} {ys : List Value} (h : DelInv p xs i j ys) (hj : j < xs.length) (h1 : p xs[j] = true) : DelInv p xs i (j + 1) ys := by
  obtain ⟨a1, a2, a3, a4, a5⟩ := h
  have hf : ((xs.take (j + 1)).filter fun x => !p x) = ((xs.take j).filter fun x => !p x) := by
    rw [List.take_succ_eq_append_getElem hj, List.filter_append]
    simp [h1]
  exact ⟨by omega, a2, by rw [hf]; exact a3, by rw [hf]; exact a4, fun k hk => a5 k (by omega)⟩

set_option maxRecDepth 100000 in
set_option maxHeartbeats 4000000 in
theorem deleteFuncI_any {g : FuncId} {cb : Array Value} {p : Int → Bool} {R : Int → Prop} (eg : Enter1 g) (xs : List Int) (B : Option Addr) (cc : Nat) (w0 w : World) (ps : List Asn)
    (S : Sp w0 w (Own 3 1 (.slice B xs.length cc) xs.length (xs.map (.int .i64)) :: ps)) (hI : ∀ x ∈ xs, I64 x) (hl : xs.length ≤ 1000000) (hR : ∀ x ∈ xs, R x)
    (hf : ∀ (x : Int) (ys : List Value) (W : World), R x → Sp w0 W (Own 3 1 (.slice B xs.length cc) xs.length ys :: ps) → Calls Tryz.prog g (#[.int .i64 x] ++ cb) W fun e w' => e = .returned (.bool (p x)) ∧ Below W.heap.size W w') :
    Calls Tryz.prog 79 #[.slice B xs.length cc, .func (.func g) #[] cb] w fun e w' => e = .returned (.slice B (xs.filter fun x => !p x).length cc) ∧
      Sp w0 w' (Own 3 1 (.slice B (xs.filter fun x => !p x).length cc) (xs.filter fun x => !p x).length ((xs.filter fun x => !p x).map (.int .i64)) :: ps) ∧ Chg (Value.slice B xs.length cc).ownBlock.toList w w' := by
  have hF : FnI R w g cb p := fun x W hx hb => hf x _ W hx (S.grow hb)
  obtain ⟨A, c, e1, hIn⟩ := ints_own (S.own (i := 0) rfl) hI
  cases e1
  have hix := Lib.hid (indexFuncI_any eg xs B cc w hIn hl hR hF)
  have eg2 := eg
  unfold Enter1 at eg2
  clear hIn hF
  cases hq : xs.any p
  · have hid : idxP p xs = -1 := by unfold idxP; rw [hq]; rfl
    have hfx : (xs.filter fun x => !p x) = xs := by
      rw [List.filter_eq_self]
      intro x hx
      have := List.any_eq_false.1 hq x hx
      simpa using this
    rw [hid] at hix
    rw [hfx]
    replace S := Lib.hid S
    clear hid hfx hf hR
    go_enter Tryz.func79, Tryz.ntmps79
    go_wp2_with fail
    refine hix.out.mono ?_
    rintro e w1 ⟨rfl, hb1⟩
    have S1 := Lib.hid (S.out.grow hb1)
    have hch := Lib.hid (Chg.of_below (F := (Value.slice B xs.length cc).ownBlock.toList) hb1)
    clear hix hb1 S
    go_wp2_with fail
    go_ret
    exact ⟨rfl, S1.out, hch.out⟩
  · have hlt : xs.findIdx p < xs.length := List.findIdx_lt_length_of_exists (by simpa using List.any_eq_true.1 hq)
    have hid : idxP p xs = (xs.findIdx p : Int) := by unfold idxP; rw [if_pos hq]
    have hyes : p xs[xs.findIdx p] = true := List.findIdx_getElem (w := hlt)
    have hbef : (xs.take (xs.findIdx p)).any p = false := by
      rw [List.any_eq_false]
      intro x hx
      obtain ⟨j, hj, rfl⟩ := List.mem_take_iff_getElem.1 hx
      have := List.not_of_lt_findIdx (xs := xs) (p := p) (i := j) (by omega)
      simpa using this
    have HD := DelInv.start hlt hyes hbef
    rw [hid] at hix
    generalize xs.findIdx p = k0 at *
    obtain ⟨gx, cap', cur, e1, -⟩ := own_block (S.own (i := 0) rfl) (by omega)
    simp only [Value.slice.injEq] at e1
    obtain ⟨rfl, -, rfl⟩ := e1
    have hcc : xs.length ≤ cc ∧ cc ≤ 9223372036854775807 := by
      obtain ⟨g', cap', cur, e1, -, -, hn, hm, -⟩ := own_block (S.own (i := 0) rfl) (by omega)
      simp only [Value.slice.injEq] at e1
      obtain ⟨-, -, rfl⟩ := e1
      exact ⟨hn, by unfold maxLen at hm; omega⟩
    have hne1 : ((k0 : Int) == -1) = false := beq_eq_false_iff_ne.2 (by omega)
    obtain ⟨n, hn⟩ : ∃ n, xs.length = n := ⟨_, rfl⟩
    rw [hn] at S hix hf hlt hl hcc ⊢
    obtain ⟨zs, hzs⟩ : ∃ zs, (xs.filter fun x => !p x) = zs := ⟨_, rfl⟩
    rw [hzs]
    replace S := Lib.hid S
    replace hf := Lib.hid hf
    replace HD := Lib.hid HD
    replace hn := Lib.hid hn
    replace hzs := Lib.hid hzs
    have hRR := Lib.hid hR
    clear hid hyes hbef hq hR hI
    go_enter Tryz.func79, Tryz.ntmps79
    go_wp2_with fail
    refine hix.out.mono ?_
    rintro e w1 ⟨rfl, hb1⟩
    have S1 := Lib.hid (S.out.grow hb1)
    have hch := Lib.hid (Chg.of_below (F := [gx]) hb1)
    clear hix hb1 S
    go_wp2_with fail
    go_loopw [5, 6, 7] (fun vi vj _ wr => ∃ (i j : Nat) (ys : List Value), i < j ∧ j ≤ n ∧ vi = .int .i64 i ∧ vj = .int .i64 j ∧ Hid (DelInv p xs i j ys) ∧ Hid (Sp w0 wr (Own 3 1 (.slice (some ⟨gx, 0, none⟩) n cc) n ys :: ps)) ∧ Hid (Chg [gx] w wr)) (fun _ vj _ _ => n - (intOf vj).toNat)
    case atStart => exact ⟨k0, k0 + 1, _, by omega, by omega, rfl, by go_num, HD, S1, hch⟩
    case round =>
      obtain ⟨i, j, ys, hij, hjn, rfl, rfl, HI, HS, HC⟩ := hrel
      clear S1 hch HD hlt hne1
      by_cases hlt : j < n
      · have hltz : decide ((j : Int) < (n : Int)) = true := decide_eq_true (Int.ofNat_lt.2 hlt)
        have hjx : j < xs.length := by rw [hn.out]; exact hlt
        obtain ⟨g', cap', cur, e1, -, hh, -, -, -, ht⟩ := own_block (HS.out.own (i := 0) rfl) (by omega)
        simp only [Value.slice.injEq, Option.some.injEq, Addr.mk.injEq] at e1
        obtain ⟨⟨rfl, -⟩, -, rfl⟩ := e1
        have m0 := (own_at hh ht (o := j) (by omega)).1
        rw [HI.out.2.2.2.2 j (Nat.le_refl _), List.getElem?_map, List.getElem?_eq_getElem hjx] at m0
        have f0 := (own_at hh ht (o := i) (by omega)).2
        have hil : i < ys.length := by rw [HI.out.2.1, hn.out]; omega
        have n0 := (own_at hh ht (o := i) (by omega)).1
        rw [List.getElem?_eq_getElem hil] at n0
        obtain ⟨x, hx⟩ : ∃ x, xs[j] = x := ⟨_, rfl⟩
        have hRx := hRR.out _ (List.getElem_mem hjx)
        have hkp := fun h => HI.out.keep hjx h
        have hsk := fun h => HI.out.skip hjx h
        rw [hx] at m0 hRx hkp hsk
        have hcall := Lib.hid (hf.out x ys wr hRx HS.out)
        have hS2 := Lib.hid (fun W (h : Below wr.heap.size wr W) => (HS.out.grow h).own_put (i := 0) rfl (.int .i64 x) (o := i) (by omega))
        replace hkp := Lib.hid hkp
        replace hsk := Lib.hid hsk
        replace hx := Lib.hid hx
        simp only [Option.map_some] at m0
        generalize ys[i] = old at n0
        generalize p x = q at *
        clear hh ht hil hRx
        cases q
        · have HI2 := Lib.hid (hkp.out rfl)
          clear hkp hsk
          go_wp2_with fail
          refine hcall.out.mono ?_
          rintro e w2 ⟨rfl, hb2⟩
          have S3 := Lib.hid (hS2.out _ hb2)
          have n2 := ((bcell hb2).1 _ _ (World.block_lt_of_cell? _ _ n0)).trans n0
          have f2 := ((bcell hb2).2 gx i (World.block_lt_of_cell? _ _ n0)).trans f0
          have HC2 := Lib.hid ((HC.out.then hb2).set (p := ⟨gx, i, none⟩) (by simp) (.int .i64 x))
          clear hcall hb2 HS HC hS2 m0 n0 f0
          go_wp2_with fail
          go_roundw
          case rel => exact ⟨i + 1, j + 1, _, by omega, by omega, by go_num, by go_num, HI2, S3, HC2⟩
          case measure => simp [intOf]; omega
        · have HI2 := Lib.hid (hsk.out rfl)
          clear hkp hsk
          go_wp2_with fail
          refine hcall.out.mono ?_
          rintro e w2 ⟨rfl, hb2⟩
          have S3 := Lib.hid (HS.out.grow hb2)
          have HC2 := Lib.hid (HC.out.then hb2)
          clear hcall hb2 HS HC hS2 m0 n0 f0
          go_wp2_with fail
          go_roundw
          case rel => exact ⟨i, j + 1, _, by omega, by omega, rfl, by go_num, HI2, S3, HC2⟩
          case measure => simp [intOf]; omega
      · obtain rfl : j = n := by omega
        have hltz : decide ((j : Int) < (j : Int)) = false := by simp
        obtain ⟨g', cap', cur, e1, -, hh, -, -, -, ht⟩ := own_block (HS.out.own (i := 0) rfl) (by omega)
        simp only [Value.slice.injEq, Option.some.injEq, Addr.mk.injEq] at e1
        obtain ⟨⟨rfl, -⟩, -, rfl⟩ := e1
        have hcl : ∀ ty, (Builtin.clear_ #[33] ty #[.slice (some ⟨gx, i, none⟩) (j - i) (cc - i)]).run Tryz.prog wr = .ok (.tuple #[]) (wr.setCells gx i (List.replicate (j - i) (.int .i64 0))) := fun ty =>
          Lib.run_clear_slice wr _ _ ty _ Tryz.underlying33 Tryz.zeroValue3 (by simp [Value.cells]) rfl gx i _ _ (by omega)
            (fun t ht' => by
              have hlen : i + t < ys.length := by rw [HI.out.2.1, hn.out]; omega
              rw [(own_at hh ht (o := i + t) (by omega)).1, List.getElem?_eq_getElem hlen]; rfl)
            (fun t ht' => (own_at hh ht (o := i + t) (by omega)).2)
        obtain ⟨ys', S2, hy2, hc2⟩ := HS.out.own_puts (i := 0) (List.replicate (j - i) (.int .i64 0)) i wr _ _ rfl (by simp; omega)
        have S3 := S2.own_cut (i := 0) (m := i) rfl (by omega)
        obtain ⟨a1, a2, a3, a4, a5⟩ := HI.out
        have htk : xs.take j = xs := by rw [← hn.out, List.take_length]
        rw [hy2, a3, htk, hzs.out] at S3
        rw [htk, hzs.out] at a4
        have hzl := Lib.hid a4
        have hch2 := Lib.hid (HC.out.trans hc2)
        replace S3 := Lib.hid S3
        clear HI HS HC hh ht S2 hy2 hc2 a1 a2 a3 a4 a5 htk
        go_wp2_with fail
        go_ret
        exact ⟨by rw [← hzl.out]; rfl, by rw [← hzl.out]; exact S3.out, hch2.out⟩
end Go.Proofs.YtnfjgebfmnpkbaaGreat

/- Contracts: lists of indices in the program: all of them, one left out, the place of one. -/
namespace Go.Proofs.YtnfjgebfmnpkbaaGreat
open Go.RowKit Go.Shelf

/- left out: the seat has no slices.Delete[[]int,int] -/

/- left out: the seat has no slices.Delete[[]int,int] -/

theorem putCells_take {α : Type} [Inhabited α] (enc : α → Value) (d : Array α) (c : Array Value) {m : Nat} (hm : m ≤ d.size) (hd : d.size ≤ c.size) : (Sort.putCells enc 0 d c).toList.take m = (d.toList.map enc).take m := by
  unfold Sort.putCells
  apply List.ext_getElem
  · simp; omega
  · intro i h1 h2
    have hi : i < m := by simp at h1; omega
    have hid : i < d.size := by omega
    simp [hid]
/-- A row that is laid anew and cut. -/
theorem Sp.own_putRow {α : Type} [Inhabited α] {w0 w : World} {g cap n m q i : Nat} {e : TypeId} {ps : List Asn} {xs : List Value} (enc : α → Value) (d : Array α) (h : Sp w0 w ps) (hi : ps[i]? = some (Own e 1 (.slice (some ⟨g, 0, none⟩) n cap) n xs)) (hd : d.size ≤ n) (hm : m ≤ d.size) (hn : 0 < n) :
    Sp w0 (Sort.putRow enc (Sort.ahead w q) g 0 d) (ps.set i (Own e 1 (.slice (some ⟨g, 0, none⟩) m cap) m ((d.toList.map enc).take m))) := by
  obtain ⟨F, ⟨rfl, hh⟩, hF, hall⟩ := h.upd hi
  obtain ⟨g', cap', cur, e1, h0, hg, hnc, hmx, hc, ht⟩ := own_block hh hn
  simp only [Value.slice.injEq, Option.some.injEq, Addr.mk.injEq] at e1
  obtain ⟨⟨rfl, _⟩, _, rfl⟩ := e1
  refine hall _ _ [g] ⟨rfl, rfl, rfl, by simp [Sort.putRow, Sort.mapBlock, Sort.ahead], fun k _ hk => ?_⟩ ⟨rfl, ?_, .inr ⟨g, cap, Sort.putCells enc 0 d cur, rfl, Nat.zero_le _, ?_, by omega, hmx, ?_, ?_⟩⟩ (fun b hb => .inl hb)
  · have hne : g ≠ k := fun e => hk (by simp [Value.ownBlock, e])
    simp only [Sort.putRow, Sort.mapBlock, Sort.ahead, Array.getElem?_modify]
    rw [if_neg hne]
  · rw [List.length_take, List.length_map, Array.length_toList]; omega
  · simp only [Sort.putRow, Sort.mapBlock, Sort.ahead, Array.getElem?_modify, if_true, hg, Option.map_some, Sort.onCells]
  · unfold Sort.putCells; simp [hc]
  · rw [Nat.mul_one]
    exact putCells_take enc d cur hm (by omega)

set_option maxRecDepth 100000 in
set_option maxHeartbeats 4000000 in
theorem cloneI_any (A : Option Addr) (n cap : Nat) (xs : List Int) (w : World) (hx : IntsAt w A xs) (hn : xs.length = n) (hl : n ≤ 1000000) (h0 : 0 < n) :
    Calls Tryz.prog 59 #[.slice A n cap] w fun e w' => ∃ g c, e = .returned (.slice (some ⟨g, 0, none⟩) n c) ∧ Sp w w' [Own 3 1 (.slice (some ⟨g, 0, none⟩) n c) n (xs.map (.int .i64))] := by
  obtain ⟨i0, hi, hz0, hz1, hz2⟩ := info_parts infoInt
  obtain ⟨b, off, rfl, -⟩ := hx.at_ 0 (by omega)
  have hs : Src w (some ⟨b, off, none⟩) n 1 (xs.map (.int .i64)) := .inr ⟨_, rfl, by simp [hn], fun j u hu => by
    rw [List.getElem?_map] at hu
    have hj : j < xs.length := by
      rcases Nat.lt_or_ge j xs.length with h | h
      · exact h
      · rw [List.getElem?_eq_none h] at hu; cases hu
    rw [List.getElem?_eq_getElem hj] at hu
    simp only [Option.map_some, Option.some.injEq] at hu
    rw [add_none, hx.get hj, hu]⟩
  have hnil := fun w : World => Lib.run_eql_slice_nil (P := Tryz.prog) w 33 3 (some ⟨b, off, none⟩) n cap 0 0 Tryz.underlying33
  have S0 := Lib.hid ((Sp.start w).own_made 3 1)
  have hs2 := Lib.hid (hs.grow (bal (bb w) (.cells #[] 3)))
  have h1H : Hid (∀ u ∈ xs.map (Value.int .i64), u.oneCell' = true) := fun u hu => by
    obtain ⟨x, -, rfl⟩ := List.mem_map.1 hu
    rfl
  simp only [Option.isNone_some] at hnil
  clear hx hs hn
  go_enter Tryz.func59, Tryz.ntmps59
  go_wp2_with (at_builtin; refine wpList_append_src rfl _ _ rfl Tryz.underlying33 hi hz0 hz1 hz2 rfl (by decide) _ _ _ rfl (S0.out.own (i := 0) rfl) _ n cap _ rfl hs2.out h1H.out ?c3 ?c4 ?_)
  case c3 => unfold maxLen; omega
  case c4 => omega
  intro v' w' hown hg hat
  have S1 := S0.out.own_push (i := 0) rfl (bb _) hown hg (by simpa using hat)
  obtain ⟨g, c, cur, rfl, -⟩ := own_block hown (by omega)
  replace S1 := Lib.hid S1
  clear hown hg hat S0 hs2 hnil
  go_wp2_with fail
  go_ret
  exact ⟨g, c, rfl, S1.out⟩

/- left out: the seat has no impl.without[int] -/

set_option maxRecDepth 100000 in
set_option maxHeartbeats 4000000 in
theorem indexI_any (A : Option Addr) (n cap p : Nat) (xs : List Int) (x : Int) (w : World) (hx : IntsAt w A xs) (hn : xs.length = n) (hl : n ≤ 1000000) (hp : xs[p]? = some x) (hno : ∀ j, j < p → xs[j]? ≠ some x) :
    Calls Tryz.prog 50 #[.slice A n cap, .int .i64 x] w fun e w' => e = .returned (.int .i64 p) ∧ w' = w := by
  have hpl : p < n := by rw [← hn]; exact (List.getElem?_eq_some_iff.1 hp).1
  have hI := Lib.hid hx
  have hnH := Lib.hid hn
  have hpH := Lib.hid hp
  have hnoH := Lib.hid hno
  clear hx hn hp hno
  go_enter Tryz.func50, Tryz.ntmps50
  go_wp2_with fail
  go_loopw [5, 8] (fun _ vi wr => ∃ k : Nat, k ≤ p ∧ vi = .int .i64 k ∧ wr = w) (fun _ vi _ => n - (intOf vi).toNat)
  case atStart => exact ⟨0, Nat.zero_le _, rfl, rfl⟩
  case round =>
    obtain ⟨k, hk, rfl, rfl⟩ := hrel
    have hkn : k < n := by omega
    have hkx : k < xs.length := by rw [hnH.out]; exact hkn
    obtain ⟨b, off, rfl, m0⟩ := hI.out.at_ k hkx
    by_cases hkp : k = p
    · subst hkp
      have hv : xs[k] = x := by have := hpH.out; rw [List.getElem?_eq_getElem hkx] at this; simpa using this
      rw [hv] at m0
      have d1 : (x == x) = true := by simp
      clear hv
      go_wp2_with fail
      go_ret
      exact ⟨rfl, rfl⟩
    · have hv : xs[k] ≠ x := fun e => hnoH.out k (by omega) (by rw [List.getElem?_eq_getElem hkx, e])
      generalize xs[k] = y at *
      have d1 : (x == y) = false := by simpa using fun e => hv e.symm
      have d2 : decide (x = y) = false := decide_eq_false fun e => hv e.symm
      clear hv
      go_wp2_with fail
      go_roundw
      case rel => exact ⟨k + 1, by omega, by go_num, by first | rfl | trivial⟩
      case measure => simp [intOf]; omega
end Go.Proofs.YtnfjgebfmnpkbaaGreat

/- Contracts: the laws' own comparisons of numbers. -/
namespace Go.Proofs.YtnfjgebfmnpkbaaGreat
open Go.RowKit

/- left out: the seat has no laws.rBig -/

/- left out: the seat has no laws.rInts -/

set_option maxRecDepth 100000 in
set_option maxHeartbeats 4000000 in
theorem vInts_same (A A' : Option Addr) (c c' : Nat) (ns : List Int) (w : World) (hx : IntsAt w A ns) (hy : IntsAt w A' ns) (hl : ns.length ≤ 1000000) :
    Calls Tryz.prog 11 #[.slice A ns.length c, .slice A' ns.length c'] w fun e w' => e = .returned (.bool true) ∧ Below w.heap.size w w' := by
  have hN := Lib.hid hx
  have hM := Lib.hid hy
  clear hx hy
  go_enter Tryz.func11, Tryz.ntmps11
  go_wp2_with fail
  go_loopw [5] (fun i wr => ∃ k : Nat, k ≤ ns.length ∧ i = .int .i64 k ∧ Hid (Below w.heap.size w wr)) (fun i _ => ns.length - (intOf i).toNat)
  case atStart => exact ⟨0, Nat.zero_le _, rfl, bb _⟩
  case round =>
    obtain ⟨k, hk, rfl, HS⟩ := hrel
    by_cases hlt : k < ns.length
    · obtain ⟨b, off, rfl, m0⟩ := (hN.out.grow HS.out).at_ k hlt
      obtain ⟨b', off', rfl, p0⟩ := (hM.out.grow HS.out).at_ k hlt
      have k0 := cell_regrown m0
      have q0 := cell_regrown p0
      generalize ns[k] = v at *
      clear m0 p0
      go_wp2_with fail
      refine wp_region_quiet_below (by kernel_rfl) (by kernel_rfl) ?_
      repeat (any_goals (go_big_quiet_step (fail)))
      refine wpQuiet_nil ?_
      rintro w3 ⟨p, rfl⟩
      have HS4 := Lib.hid (btr HS.out (below_regrown _ p.d p.os))
      clear HS k0 q0
      go_wp2_with fail
      go_roundw
      case rel => exact ⟨k + 1, by omega, by go_num, HS4⟩
      case measure => simp [intOf]; omega
    · obtain rfl : k = ns.length := by omega
      have hB := HS.out
      go_wp2_with fail
      go_ret
      exact ⟨rfl, hB⟩
end Go.Proofs.YtnfjgebfmnpkbaaGreat

/- Contracts: numbers sorted and without repetitions, in the library. -/
namespace Go.Proofs.YtnfjgebfmnpkbaaGreat
open Go.RowKit Go.Sort

/- left out: the seat has no slices.Sort[[]int,int] -/

theorem compactI_any (xs : List Int) (B : Option Addr) (cc : Nat) (w0 w : World) (ps : List Asn) (S : Sp w0 w (Own 3 1 (.slice B xs.length cc) xs.length (xs.map (.int .i64)) :: ps)) (hl : xs.length ≤ 1000000) :
    Calls Tryz.prog 77 #[.slice B xs.length cc] w fun e w' => e = .returned (.slice B (Lib.compact xs).length cc) ∧ Sp w0 w' (Own 3 1 (.slice B (Lib.compact xs).length cc) (Lib.compact xs).length ((Lib.compact xs).map (.int .i64)) :: ps) := by
  rcases Nat.eq_zero_or_pos xs.length with h0 | h0
  · obtain rfl : xs = [] := List.length_eq_zero_iff.1 h0
    refine (Tryz.slices_Compact_int_empty B cc w).mono ?_
    rintro e w' ⟨rfl, rfl⟩
    exact ⟨rfl, S⟩
  · obtain ⟨g, cap, cur, e1, h0', hg, hnc, hmx, hc, ht⟩ := own_block (S.own (i := 0) rfl) h0
    simp only [Value.slice.injEq] at e1
    obtain ⟨rfl, -, rfl⟩ := e1
    rw [Nat.mul_one] at ht
    have hH := holds_of_blockI hg ht
    have hcl : (Lib.compact xs).length ≤ xs.length := Lib.compact_length_le xs
    refine (Tryz.slices_Compact_int g 0 cc xs w hH (by omega) hnc).mono ?_
    rintro e w' ⟨rfl, q, rfl⟩
    have h := S.own_putRow (i := 0) (q := q) (m := (Lib.compact xs).length) (Value.int .i64) (Lib.compact xs ++ List.replicate (xs.length - (Lib.compact xs).length) 0).toArray rfl (by simp; omega) (by simp) h0
    refine ⟨rfl, ?_⟩
    have e2 : (((Lib.compact xs ++ List.replicate (xs.length - (Lib.compact xs).length) 0).toArray.toList.map (Value.int .i64)).take (Lib.compact xs).length) = (Lib.compact xs).map (.int .i64) := by
      rw [List.toList_toArray, List.map_append, List.take_append_of_le_length (by simp), List.take_of_length_le (by simp)]
    rw [e2] at h
    exact h
end Go.Proofs.YtnfjgebfmnpkbaaGreat

/- Plain facts: the variables of clauses, in ascending order. No program in sight. -/
namespace Go.Proofs.YtnfjgebfmnpkbaaGreat
open Go.RowKit

theorem ascI_ext : ∀ {a b : List Int}, a.Pairwise (· < ·) → b.Pairwise (· < ·) → (∀ x, x ∈ a ↔ x ∈ b) → a = b
  | [], [], _, _, _ => rfl
  | [], y :: b, _, _, h => absurd ((h y).2 (List.mem_cons_self ..)) (by simp)
  | x :: a, [], _, _, h => absurd ((h x).1 (List.mem_cons_self ..)) (by simp)
  | x :: a, y :: b, ha, hb, h => by
    rw [List.pairwise_cons] at ha hb
    have e : x = y := by
      rcases List.mem_cons.1 ((h x).1 (List.mem_cons_self ..)) with e | hx
      · exact e
      rcases List.mem_cons.1 ((h y).2 (List.mem_cons_self ..)) with e | hy
      · exact e.symm
      have := hb.1 x hx; have := ha.1 y hy; omega
    subst e
    congr 1
    refine ascI_ext ha.2 hb.2 fun z => ⟨fun hz => ?_, fun hz => ?_⟩
    · rcases List.mem_cons.1 ((h z).1 (List.mem_cons_of_mem _ hz)) with e | h2
      · have := ha.1 z hz; omega
      · exact h2
    · rcases List.mem_cons.1 ((h z).2 (List.mem_cons_of_mem _ hz)) with e | h2
      · have := hb.1 z hz; omega
      · exact h2
theorem bangI {l : List Int} {j : Nat} (h : j < l.length) : l.toArray[j]! = l[j] := by rw [getElem!_pos l.toArray j (by simpa using h)]; simp
theorem compactI_mem {l : List Int} {x : Int} : x ∈ Lib.compact l ↔ x ∈ l := by
  unfold Lib.compact Lib.compactUpTo
  rw [List.mem_map]
  constructor
  · rintro ⟨j, hj, rfl⟩
    have hjl := List.mem_range.1 (List.mem_filter.1 hj).1
    rw [bangI hjl]
    exact List.getElem_mem hjl
  · intro hx
    obtain ⟨j, hj, rfl⟩ := List.getElem_of_mem hx
    have key : ∀ j (hj : j < l.length), ∃ i, i ∈ (List.range l.length).filter (Lib.keeps l.toArray) ∧ l.toArray[i]! = l[j] := by
      intro j
      induction j with
      | zero => exact fun hj => ⟨0, List.mem_filter.2 ⟨List.mem_range.2 hj, by simp [Lib.keeps]⟩, bangI hj⟩
      | succ j ih =>
        intro hj
        by_cases e : l[j + 1] = l[j]
        · obtain ⟨i, hi, h2⟩ := ih (by omega)
          exact ⟨i, hi, by rw [h2, e]⟩
        · refine ⟨j + 1, List.mem_filter.2 ⟨List.mem_range.2 hj, ?_⟩, bangI hj⟩
          refine Lib.keeps_pos ?_
          rw [Nat.add_sub_cancel, bangI hj, bangI (by omega)]
          exact e
    exact key j hj
theorem compactI_asc {l : List Int} (h : l.Pairwise (· ≤ ·)) : (Lib.compact l).Pairwise (· < ·) := by
  unfold Lib.compact Lib.compactUpTo
  rw [List.pairwise_map]
  have hr : ((List.range l.length).filter (Lib.keeps l.toArray)).Pairwise (· < ·) := List.Pairwise.filter _ List.pairwise_lt_range
  refine hr.imp_of_mem fun {i j} hi hj hij => ?_
  have hil := List.mem_range.1 (List.mem_filter.1 hi).1
  have hjl := List.mem_range.1 (List.mem_filter.1 hj).1
  have hk := (List.mem_filter.1 hj).2
  rw [bangI hil, bangI hjl]
  have hget := List.pairwise_iff_getElem.1 h
  have hne : l[j] ≠ l[j - 1]'(by omega) := fun e => by
    have : Lib.keeps l.toArray j = false := Lib.keeps_neg (by omega) (by rw [bangI hjl, bangI (by omega)]; exact e)
    rw [this] at hk; cases hk
  have h1 : l[j - 1]'(by omega) ≤ l[j] := hget (j - 1) j (by omega) hjl (by omega)
  by_cases e : i = j - 1
  · subst e; omega
  · have := hget i (j - 1) hil (by omega) (by omega); omega
theorem sorted_le (l : List Int) : (l.mergeSort fun x y => decide (x ≤ y)).Pairwise (· ≤ ·) := by
  have h := List.pairwise_mergeSort (le := fun x y : Int => decide (x ≤ y)) (fun a b c h1 h2 => by simp at *; omega) (fun a b => by simp; omega) l
  exact h.imp fun h => by simpa using h
/-- A list in ascending order, without repetitions. -/
def ascL (l : List Int) : List Int := Lib.compact (l.mergeSort fun x y => decide (x ≤ y))
theorem ascL_asc (l : List Int) : (ascL l).Pairwise (· < ·) := compactI_asc (sorted_le l)
theorem ascL_mem {l : List Int} {x : Int} : x ∈ ascL l ↔ x ∈ l := by unfold ascL; rw [compactI_mem, List.mem_mergeSort]
theorem ascL_eq {l m : List Int} (hm : m.Pairwise (· < ·)) (h : ∀ x, x ∈ l ↔ x ∈ m) : ascL l = m := ascI_ext (ascL_asc l) hm fun x => by rw [ascL_mem, h]

/-- The variables up to n with a property. -/
def varF (n : Nat) (p : Nat → Bool) : List Int := ((List.range' 1 n).filter p).map fun (v : Nat) => (v : Int)
theorem varF_asc (n : Nat) (p : Nat → Bool) : (varF n p).Pairwise (· < ·) := by
  unfold varF
  rw [List.pairwise_map]
  exact (List.Pairwise.filter _ (List.pairwise_lt_range' (s := 1) (n := n))).imp fun h => by omega
theorem varF_mem {n : Nat} {p : Nat → Bool} {x : Int} : x ∈ varF n p ↔ 1 ≤ x ∧ x ≤ n ∧ p x.toNat = true := by
  unfold varF
  simp only [List.mem_map, List.mem_filter, List.mem_range'_1]
  constructor
  · rintro ⟨v, ⟨⟨h1, h2⟩, h3⟩, rfl⟩
    exact ⟨by omega, by omega, by simpa using h3⟩
  · rintro ⟨h1, h2, h3⟩
    exact ⟨x.toNat, ⟨⟨by omega, by omega⟩, h3⟩, by omega⟩
theorem varF_len (n : Nat) (p : Nat → Bool) : (varF n p).length ≤ n := by
  unfold varF
  rw [List.length_map]
  exact Nat.le_trans (List.length_filter_le _ _) (by simp)
theorem varF_snoc (n : Nat) (p : Nat → Bool) : varF (n + 1) p = varF n p ++ (if p (n + 1) = true then [((n + 1 : Nat) : Int)] else []) := by
  unfold varF
  rw [List.range'_concat, List.filter_append, List.map_append]
  congr 1
  rw [Nat.one_mul, Nat.add_comm 1 n]
  by_cases h : p (n + 1) = true <;> simp [h]
theorem varF_sub (n : Nat) (p q : Nat → Bool) : (varF n p).filter (fun x => q x.toNat) = varF n fun v => p v && q v := by
  unfold varF
  rw [List.filter_map, List.filter_filter]
  congr 1
  apply List.filter_congr
  intro v _
  simp [Function.comp, Bool.and_comm]
theorem varF_split (n : Nat) (p q : Nat → Bool) : (varF n fun v => p v && !q v).length + (varF n fun v => q v && !p v).length + (varF n fun v => p v && q v).length = (varF n fun v => p v || q v).length := by
  unfold varF
  simp only [List.length_map]
  induction List.range' 1 n with
  | nil => rfl
  | cons v l ih =>
    simp only [List.filter_cons]
    cases p v <;> cases q v <;> simp <;> omega
theorem varF_congr {n : Nat} {p q : Nat → Bool} (h : ∀ v, 1 ≤ v → v ≤ n → p v = q v) : varF n p = varF n q := by
  unfold varF
  congr 1
  apply List.filter_congr
  intro v hv
  rw [List.mem_range'_1] at hv
  exact h v hv.1 (by omega)

/-- A variable is in some clause. -/
def usedB (cls : List (List Int)) (v : Nat) : Bool := cls.any fun c => c.any fun l => l.natAbs == v
/-- All literals' variables. -/
def flatA (cls : List (List Int)) : List Int := cls.flatMap fun c => c.map fun l => (l.natAbs : Int)
theorem flatA_take {cls : List (List Int)} {k : Nat} (h : k < cls.length) : flatA (cls.take (k + 1)) = flatA (cls.take k) ++ cls[k].map fun l => (l.natAbs : Int) := by
  unfold flatA
  rw [List.take_succ_eq_append_getElem h, List.flatMap_append]
  simp
theorem used_asc {cls : List (List Int)} {n : Nat} (h : ∀ c ∈ cls, ∀ l ∈ c, l ≠ 0 ∧ l.natAbs ≤ n) : ascL (flatA cls) = varF n (usedB cls) := by
  refine ascL_eq (varF_asc _ _) fun x => ?_
  rw [varF_mem]
  unfold flatA usedB
  simp only [List.mem_flatMap, List.mem_map, List.any_eq_true, beq_iff_eq]
  constructor
  · rintro ⟨c, hc, l, hl, rfl⟩
    have := h c hc l hl
    exact ⟨by omega, by omega, c, hc, l, hl, by simp⟩
  · rintro ⟨h1, -, c, hc, l, hl, h2⟩
    exact ⟨c, hc, l, hl, by omega⟩
theorem flatA_len {cls : List (List Int)} {m : Nat} (h : ∀ c ∈ cls, c.length ≤ m) : (flatA cls).length ≤ m * cls.length := by
  unfold flatA
  induction cls with
  | nil => simp
  | cons c cls ih =>
    rw [List.flatMap_cons, List.length_append, List.length_map, List.length_cons, Nat.mul_add]
    have := h c (List.mem_cons_self ..)
    have := ih fun d hd => h d (List.mem_cons_of_mem _ hd)
    omega
end Go.Proofs.YtnfjgebfmnpkbaaGreat

/- An own row of numbers with one more. No program in sight. -/
namespace Go.Proofs.YtnfjgebfmnpkbaaGreat
open Go.RowKit

theorem ownI_snoc {w0 w : World} {ps : List Asn} {e : TypeId} {d : List Int} {x : Int} {A : Option Addr} {c : Nat} (S : Sp w0 w (Own e 1 (.slice A (d.length + 1) c) (d.length + 1) (d.map (.int .i64) ++ [.int .i64 x]) :: ps)) :
    Sp w0 w (Own e 1 (.slice A (d ++ [x]).length c) (d ++ [x]).length ((d ++ [x]).map (.int .i64)) :: ps) := by
  rw [List.map_append, List.length_append]; exact S
theorem ownI_snocC {w0 w : World} {g cl cc A0 : Nat} {ca : Option Addr} {ps : List Asn} {e : TypeId} {d : List Int} {x : Int} {A : Option Addr} {c : Nat} (S : CS w0 g ca cl cc A0 w (Own e 1 (.slice A (d.length + 1) c) (d.length + 1) (d.map (.int .i64) ++ [.int .i64 x]) :: ps)) :
    CS w0 g ca cl cc A0 w (Own e 1 (.slice A (d ++ [x]).length c) (d ++ [x]).length ((d ++ [x]).map (.int .i64)) :: ps) := by
  rw [List.map_append, List.length_append]; exact S
end Go.Proofs.YtnfjgebfmnpkbaaGreat

/- Contract: the variables of clauses, in the program. -/
namespace Go.Proofs.YtnfjgebfmnpkbaaGreat
open Go.RowKit

theorem flatA_small {cls : List (List Int)} (hc : ∀ c ∈ cls, ClS c) : ∀ x ∈ flatA cls, 0 ≤ x ∧ x ≤ 1000 := fun x hx => by
  unfold flatA at hx
  obtain ⟨c, hcm, hx⟩ := List.mem_flatMap.1 hx
  obtain ⟨l, hl, rfl⟩ := List.mem_map.1 hx
  have := (hc c hcm).1 l hl
  unfold LitS at this
  omega
theorem flatA_in {cls : List (List Int)} {k j : Nat} (hk : k < cls.length) (hj : j < cls[k].length) : flatA (cls.take k) ++ (cls[k].take (j + 1)).map (fun l => (l.natAbs : Int)) = flatA (cls.take k) ++ (cls[k].take j).map (fun l => (l.natAbs : Int)) ++ [(cls[k][j].natAbs : Int)] := by
  rw [List.take_succ_eq_append_getElem hj, List.map_append, List.append_assoc]
  rfl

/- left out: the seat has no impl.varsOf -/
end Go.Proofs.YtnfjgebfmnpkbaaGreat

/- Contract: numbers from one on; plain facts on lists of indices. -/
namespace Go.Proofs.YtnfjgebfmnpkbaaGreat
open Go.RowKit

/- left out: the seat has no impl.upTo -/

/-- The first k numbers made less by one. -/
def decL (n k : Nat) : List Value := (List.range n).map fun (j : Nat) => .int .i64 (if j < k then (j : Int) else (j : Int) + 1)
theorem decL_zero (n : Nat) : decL n 0 = (List.range n).map fun (j : Nat) => .int .i64 ((j : Int) + 1) := by simp [decL]
theorem decL_all (n : Nat) : decL n n = (ofN (List.range n)).map (.int .i64) := by
  unfold decL ofN
  rw [List.map_map]
  apply List.map_congr_left
  intro j hj
  have := List.mem_range.1 hj
  simp [this]
theorem decL_len (n k : Nat) : (decL n k).length = n := by simp [decL]
theorem decL_at {n k : Nat} (h : k < n) : (decL n k)[k]? = some (.int .i64 ((k : Int) + 1)) := by simp [decL, h]
theorem decL_set {n k : Nat} (h : k < n) : (decL n k).set k (.int .i64 (k : Int)) = decL n (k + 1) := by
  apply List.ext_getElem?
  intro j
  rw [List.getElem?_set]
  by_cases hj : k = j
  · subst hj
    simp [decL, h]
  · rw [if_neg hj]
    by_cases hjn : j < n
    · simp only [decL, List.getElem?_map, List.getElem?_range hjn, Option.map_some]
      by_cases hjk : j < k
      · rw [if_pos hjk, if_pos (by omega)]
      · rw [if_neg hjk, if_neg (by omega)]
    · rw [List.getElem?_eq_none (by rw [decL_len]; omega), List.getElem?_eq_none (by rw [decL_len]; omega)]
/-- What is told of a core. -/
def coreOk (n : Nat) (vars : Int) (xss : List (List Int)) : Bool := goodB vars xss && !(List.range (2 ^ n)).any (modT xss)
def coreL (n : Nat) (xss : List (List Int)) : List Nat := coreGo (coreB n xss) [] (List.range xss.length)
theorem ofN_ok {m : Nat} (hm : m ≤ 1000000) {l : List Nat} (h : AscN m l) : ∀ x ∈ ofN l, I64 x := by
  intro x hx
  obtain ⟨i, hi, rfl⟩ := List.mem_map.1 hx
  have := h.2 i hi
  unfold I64; omega
theorem mid_at {kept rest : List Nat} {i : Nat} : (ofN (kept ++ i :: rest))[kept.length]? = some (i : Int) := by
  unfold ofN
  rw [List.getElem?_map, List.getElem?_append_right (Nat.le_refl _), Nat.sub_self]; rfl
theorem mid_no {m : Nat} {kept rest : List Nat} {i : Nat} (h : AscN m (kept ++ i :: rest)) : ∀ j, j < kept.length → (ofN (kept ++ i :: rest))[j]? ≠ some (i : Int) := by
  intro j hj e
  have hlt : kept[j] < i := (List.pairwise_append.1 h.1).2.2 _ (List.getElem_mem hj) i (by simp)
  unfold ofN at e
  rw [List.getElem?_map, List.getElem?_append_left hj, List.getElem?_eq_getElem hj] at e
  simp only [Option.map_some, Option.some.injEq, Int.natCast_inj] at e
  omega
theorem ofN_erase {kept rest : List Nat} {i : Nat} : (ofN (kept ++ i :: rest)).eraseIdx kept.length = ofN (kept ++ rest) := by
  unfold ofN
  rw [List.map_append, List.map_cons, List.map_append]
  have h : ((kept.map fun (i : Nat) => (i : Int)) ++ (i : Int) :: rest.map fun (i : Nat) => (i : Int)).eraseIdx (kept.map fun (i : Nat) => (i : Int)).length = (kept.map fun (i : Nat) => (i : Int)) ++ rest.map fun (i : Nat) => (i : Int) := by
    rw [List.eraseIdx_append_of_length_le (Nat.le_refl _), Nat.sub_self]; rfl
  rwa [List.length_map] at h
theorem range_front {n i : Nat} (h : i < n) : List.range' i (n - i) = i :: List.range' (i + 1) (n - (i + 1)) := by
  rw [show n - i = (n - (i + 1)) + 1 by omega, List.range'_succ]
theorem asc_len_from {m : Nat} : ∀ (l : List Nat) (a : Nat), l.Pairwise (· < ·) → (∀ x ∈ l, a ≤ x ∧ x < m) → a ≤ m → l.length + a ≤ m
  | [], a, _, _, h => by simpa using h
  | x :: l, a, hp, hx, _ => by
    rw [List.pairwise_cons] at hp
    have h0 := hx x (by simp)
    have := asc_len_from l (x + 1) hp.2 (fun y hy => ⟨hp.1 y hy, (hx y (List.mem_cons_of_mem _ hy)).2⟩) h0.2
    rw [List.length_cons]; omega
theorem asc_len {m : Nat} {l : List Nat} (h : AscN m l) : l.length ≤ m := by
  have := asc_len_from l 0 h.1 (fun x hx => ⟨Nat.zero_le _, h.2 x hx⟩) (Nat.zero_le _)
  omega
/-- A row of numbers with room, and whether it is told. -/
def IAnsC (w : World) (ok : Bool) (zs : List Int) (e : Ending) (w' : World) : Prop :=
  ∃ B cap, e = .returned (.tuple #[.slice B zs.length cap, .bool ok]) ∧ IntsAt w' B zs ∧ zs.length ≤ cap ∧ Below w.heap.size w w'
end Go.Proofs.YtnfjgebfmnpkbaaGreat

/- Contracts: lists of indices in ascending order, on both sides. -/
namespace Go.Proofs.YtnfjgebfmnpkbaaGreat
open Go.RowKit

/-- An index that fits, above the one ahead of it. -/
def rOk (m : Int) (l : List Int) (i : Nat) : Bool := inB (l.getD i 0) 0 (m - 1) && (i == 0 || decide (l.getD (i - 1) 0 < l.getD i 0))
def rOkTo (m : Int) (l : List Int) (k : Nat) : Bool := (List.range k).all (rOk m l)
theorem rOkTo_succ (m : Int) (l : List Int) (k : Nat) : rOkTo m l (k + 1) = (rOkTo m l k && rOk m l k) := by simp [rOkTo, List.range_succ]
def risB (m : Int) (l : List Int) : Bool := rOkTo m l l.length
theorem ris_no {m : Int} {l : List Int} {k : Nat} (hk : k < l.length) (h : rOk m l k = false) : risB m l = false := by
  unfold risB rOkTo
  rw [List.all_eq_false]
  exact ⟨k, List.mem_range.2 hk, by rw [h]; decide⟩
theorem ris_step {m : Int} {l : List Int} {k : Nat} (h0 : rOkTo m l k = true) (h : rOk m l k = true) : rOkTo m l (k + 1) = true := by rw [rOkTo_succ, h0, h]; rfl
theorem rOk_zero (m : Int) (l : List Int) (h : 0 < l.length) : rOk m l 0 = inB l[0] 0 (m - 1) := by simp [rOk, List.getD_eq_getElem?_getD, List.getElem?_eq_getElem h]
theorem rOk_succ (m : Int) (l : List Int) (k : Nat) (h : k + 1 < l.length) : rOk m l (k + 1) = (inB l[k + 1] 0 (m - 1) && decide ((l[k]'(by omega)) < l[k + 1])) := by
  simp [rOk, List.getD_eq_getElem?_getD, List.getElem?_eq_getElem h, List.getElem?_eq_getElem (show k < l.length by omega)]
theorem l1InB {x lo hi : Int} {q : Bool} (h : inB x lo hi = q) (w : World) : Calls Tryz.prog 40 #[.int .i64 x, .int .i64 lo, .int .i64 hi] w fun e w' => e = .returned (.bool q) ∧ Below w.heap.size w w' := h ▸ same_below (l1In_any x lo hi w)
theorem withinB {x lo hi : Int} {q : Bool} (h : inB x lo hi = q) (w : World) : Calls Tryz.prog 37 #[.int .i64 x, .int .i64 lo, .int .i64 hi] w fun e w' => e = .returned (.bool q) ∧ Below w.heap.size w w' := h ▸ same_below (within_any x lo hi w)

set_option maxRecDepth 100000 in
set_option maxHeartbeats 4000000 in
theorem l1Rising_any (A : Option Addr) (cap : Nat) (l : List Int) (m : Int) (w : World) (hx : IntsAt w A l) (hl : l.length ≤ 1000000) :
    Calls Tryz.prog 46 #[.slice A l.length cap, .int .i64 0, .int .i64 (m - 1)] w fun e w' => e = .returned (.bool (risB m l)) ∧ Below w.heap.size w w' := by
  have hX := Lib.hid hx
  have hd : Hid (risB m l = rOkTo m l l.length) := rfl
  obtain ⟨hi, hhi⟩ : ∃ hi, m - 1 = hi := ⟨_, rfl⟩
  rw [hhi]
  have hhiH := Lib.hid hhi
  clear hx hhi
  go_enter Tryz.func46, Tryz.ntmps46
  go_wp2_with fail
  go_loopw [7] (fun i wr => ∃ k : Nat, k ≤ l.length ∧ i = .int .i64 k ∧ Hid (rOkTo m l k = true) ∧ Hid (Below w.heap.size w wr)) (fun i _ => l.length - (intOf i).toNat)
  case atStart => exact ⟨0, Nat.zero_le _, rfl, by simp [Hid, rOkTo], bb _⟩
  case round =>
    obtain ⟨k, hk, rfl, HR, hB⟩ := hrel
    by_cases hlt : k < l.length
    · obtain ⟨b, off, rfl, m0⟩ := (hX.out.grow hB.out).at_ k hlt
      have k0 := cell_regrown m0
      cases hq : inB l[k] 0 hi
      · have HN : Hid (risB m l = false) := ris_no hlt (by unfold rOk; rw [List.getD_eq_getElem?_getD, List.getElem?_eq_getElem hlt, hhiH.out]; simp [hq])
        generalize l[k] = x at *
        clear m0
        go_wp2_with fail
        refine wp_region_quiet_below (by kernel_rfl) (by kernel_rfl) ?_
        repeat (any_goals (first | go_big_quiet_step ((go_at_call 40; exact Calls.regrown_of (l1InB hq _)))))
        refine wpQuiet_nil ?_
        rintro w1 ⟨p, rfl⟩
        have hB2 := Lib.hid (btr hB.out (below_regrown _ p.d p.os))
        clear hB k0
        go_wp2_with fail
        go_ret
        exact ⟨ret_bool HN.out.symm, hB2.out⟩
      rcases Nat.eq_zero_or_pos k with rfl | hpos
      · have HN : Hid (rOkTo m l (0 + 1) = true) := ris_step rfl (by rw [rOk_zero _ _ hlt, hhiH.out]; exact hq)
        rw [Nat.add_zero] at k0
        generalize l[0] = x at *
        clear HR m0
        go_wp2_with fail
        refine wp_region_quiet_below (by kernel_rfl) (by kernel_rfl) ?_
        repeat (any_goals (first | go_big_quiet_step ((go_at_call 40; exact Calls.regrown_of (l1InB hq _)))))
        refine wpQuiet_nil ?_
        rintro w1 ⟨p, rfl⟩
        have hB2 := Lib.hid (btr hB.out (below_regrown _ p.d p.os))
        clear hB k0
        go_wp2_with fail
        go_roundw
        case rel => exact ⟨0 + 1, by omega, by go_num, HN, hB2⟩
        case measure => simp [intOf]; omega
      have hj : k - 1 < l.length := by omega
      obtain ⟨b', off', e', m1⟩ := (hX.out.grow hB.out).at_ (k - 1) hj
      cases e'
      have k1 := cell_regrown m1
      have HS : rOk m l k = decide (l[k - 1] < l[k]) := by
        obtain ⟨j, rfl⟩ : ∃ j, k = j + 1 := ⟨k - 1, by omega⟩
        rw [rOk_succ m l j hlt, hhiH.out, hq, Bool.true_and]
        rfl
      generalize l[k - 1] = y at *
      generalize l[k] = x at *
      have hg : (0 : Int) < (k : Int) := by omega
      clear m0 m1
      by_cases hc : y < x
      · have HN : Hid (rOkTo m l (k + 1) = true) := ris_step HR.out (by rw [HS]; simpa using hc)
        clear HS HR
        go_wp2_with fail
        refine wp_region_quiet_below (by kernel_rfl) (by kernel_rfl) ?_
        repeat (any_goals (first | go_big_quiet_step ((go_at_call 40; exact Calls.regrown_of (l1InB hq _)))))
        refine wpQuiet_nil ?_
        rintro w1 ⟨p, rfl⟩
        have hB2 := Lib.hid (btr hB.out (below_regrown _ p.d p.os))
        clear hB k0 k1
        go_wp2_with fail
        go_roundw
        case rel => exact ⟨k + 1, by omega, by go_num, HN, hB2⟩
        case measure => simp [intOf]; omega
      · have HN : Hid (risB m l = false) := ris_no hlt (by rw [HS]; simpa using hc)
        clear HS HR
        go_wp2_with fail
        refine wp_region_quiet_below (by kernel_rfl) (by kernel_rfl) ?_
        repeat (any_goals (first | go_big_quiet_step ((go_at_call 40; exact Calls.regrown_of (l1InB hq _)))))
        refine wpQuiet_nil ?_
        rintro w1 ⟨p, rfl⟩
        have hB2 := Lib.hid (btr hB.out (below_regrown _ p.d p.os))
        clear hB k0 k1
        go_wp2_with fail
        go_ret
        exact ⟨ret_bool HN.out.symm, hB2.out⟩
    · obtain rfl : k = l.length := by omega
      have HN : Hid (risB m l = true) := hd.out.trans HR.out
      go_wp2_with fail
      go_ret
      exact ⟨ret_bool HN.out.symm, hB.out⟩

/- left out: the seat has no impl.indicesOk -/

theorem ris_bound {m : Int} {l : List Int} (h : risB m l = true) {i : Nat} (hi : i < l.length) : 0 ≤ l[i] ∧ l[i] ≤ m - 1 := by
  have h2 := List.all_eq_true.1 h i (List.mem_range.2 hi)
  unfold rOk at h2
  rw [Bool.and_eq_true, List.getD_eq_getElem?_getD, List.getElem?_eq_getElem hi] at h2
  exact inB_true.1 h2.1
theorem ris_lt {m : Int} {l : List Int} (h : risB m l = true) {i : Nat} (hi : i + 1 < l.length) : l[i]'(by omega) < l[i + 1] := by
  have h2 := List.all_eq_true.1 h (i + 1) (List.mem_range.2 hi)
  rw [rOk_succ _ _ _ hi, Bool.and_eq_true] at h2
  exact of_decide_eq_true h2.2
/-- A list of indices that is valid, as natural numbers. -/
theorem ris_nat {m : Nat} {l : List Int} (h : risB m l = true) : ∃ is : List Nat, l = ofN is ∧ AscN m is := by
  refine ⟨l.map Int.toNat, ?_, ?_, ?_⟩
  · unfold ofN
    rw [List.map_map]
    apply List.ext_getElem
    · simp
    · intro i h1 h2
      have := ris_bound h h1
      simp only [List.getElem_map, Function.comp]
      omega
  · have hp : l.Pairwise (fun a b => a.toNat < b.toNat) := by
      have hmono : ∀ d i, i + d + 1 < l.length → ∀ (h1 : i < l.length) (h2 : i + d + 1 < l.length), l[i] < l[i + d + 1] := by
        intro d
        induction d with
        | zero => intro i _ h1 h2; exact ris_lt h h2
        | succ d ih =>
          intro i hh h1 h2
          have a := ih i (by omega) h1 (by omega)
          have b := ris_lt h (i := i + d + 1) (by omega)
          exact Int.lt_trans a b
      rw [List.pairwise_iff_getElem]
      intro i j hi hj hij
      have a := hmono (j - i - 1) i (by omega) hi (by omega)
      have e : i + (j - i - 1) + 1 = j := by omega
      simp only [e] at a
      have b1 := ris_bound h hi
      have b2 := ris_bound h hj
      omega
    exact List.pairwise_map.2 hp
  · intro i hi
    obtain ⟨x, hx, rfl⟩ := List.mem_map.1 hi
    obtain ⟨j, hj, rfl⟩ := List.getElem_of_mem hx
    have := ris_bound h hj
    omega
end Go.Proofs.YtnfjgebfmnpkbaaGreat

/- Contracts: the sides of a Cnf, in the reference. -/
namespace Go.Proofs.YtnfjgebfmnpkbaaGreat
open Go.RowKit

set_option maxHeartbeats 1000000 in
theorem l1HasI_any (xs : List Int) (A : Option Addr) (cap : Nat) (x : Int) (w : World) (hx : IntsAt w A xs) (hl : xs.length ≤ 1000000) :
    Calls Tryz.prog 32 #[.slice A xs.length cap, .int .i64 x] w fun e w' => e = .returned (.bool (hasI xs x)) ∧ w = w' := by
  have hX := Lib.hid hx
  clear hx
  go_enter Tryz.func32, Tryz.ntmps32
  go_wp2_with fail
  go_loopw [5] (fun i wr => ∃ k : Nat, k ≤ xs.length ∧ i = .int .i64 k ∧ Hid (hasI (xs.take k) x = false) ∧ w = wr) (fun i _ => xs.length - (intOf i).toNat)
  case atStart => exact ⟨0, Nat.zero_le _, rfl, by simp [Hid, hasI], rfl⟩
  case round =>
    obtain ⟨k, hk, rfl, HR, rfl⟩ := hrel
    by_cases hlt : k < xs.length
    · obtain ⟨b, off, rfl, k0⟩ := hX.out.at_ k hlt
      by_cases he : xs[k] = x
      · have HN : Hid (hasI xs x = true) := hasI_yes hlt he
        have he' : (xs[k] == x) = true := by simpa using he
        clear he HR
        go_wp2_with fail
        go_ret
        exact ⟨ret_bool HN.out.symm, rfl⟩
      · have HN : Hid (hasI (xs.take (k + 1)) x = false) := hasI_no hlt HR.out he
        have he' : (xs[k] == x) = false := by simpa using he
        clear he HR
        go_wp2_with fail
        go_roundw
        case rel => exact ⟨k + 1, by omega, by go_num, HN, by first | rfl | trivial⟩
        case measure => simp [intOf]; omega
    · obtain rfl : k = xs.length := by omega
      have HN := HR.out
      rw [List.take_length] at HN
      replace HN := Lib.hid HN
      clear HR
      go_wp2_with fail
      go_ret
      exact ⟨ret_bool HN.out.symm, rfl⟩

set_option maxHeartbeats 1000000 in
theorem l2HasI_any (xs : List Int) (A : Option Addr) (cap : Nat) (x : Int) (w : World) (hx : IntsAt w A xs) (hl : xs.length ≤ 1000000) :
    Calls Tryz.prog 89 #[.slice A xs.length cap, .int .i64 x] w fun e w' => e = .returned (.bool (hasI xs x)) ∧ w = w' := by
  have hc := Lib.hid (l1HasI_any xs A cap x w hx hl)
  clear hx
  go_enter Tryz.func89, Tryz.ntmps89
  go_wp2_with fail
  refine hc.out.mono ?_
  rintro e w1 ⟨rfl, rfl⟩
  go_wp2_with fail
  go_ret
  exact ⟨rfl, rfl⟩

/-- A literal is in some clause. -/
def occB (cls : List (List Int)) (l : Int) : Bool := cls.any fun c => hasI c l
theorem occ_used {cls : List (List Int)} {v : Nat} : (occB cls v || occB cls (-v)) = usedB cls v := by
  unfold occB usedB hasI
  rw [Bool.eq_iff_iff]
  simp only [Bool.or_eq_true, List.any_eq_true, List.contains_iff_mem, beq_iff_eq]
  constructor
  · rintro (⟨c, hc, h⟩ | ⟨c, hc, h⟩)
    · exact ⟨c, hc, _, h, by simp⟩
    · exact ⟨c, hc, _, h, by simp⟩
  · rintro ⟨c, hc, l, hl, rfl⟩
    rcases Int.natAbs_eq l with e | e
    · exact .inl ⟨c, hc, by rw [← e]; exact hl⟩
    · exact .inr ⟨c, hc, by rw [← e]; exact hl⟩
theorem occ_yes {cls : List (List Int)} {l : Int} {k : Nat} (hk : k < cls.length) (h : hasI cls[k] l = true) : occB cls l = true := List.any_eq_true.2 ⟨_, List.getElem_mem hk, h⟩
theorem occ_no {cls : List (List Int)} {l : Int} {k : Nat} (hk : k < cls.length) (h0 : occB (cls.take k) l = false) (h : hasI cls[k] l = false) : occB (cls.take (k + 1)) l = false := by
  unfold occB at *
  rw [List.take_succ_eq_append_getElem hk, List.any_append, h0]
  simp [h]

/- left out: the seat has no spec.l2Occurs -/

theorem ClsAt.to {w : World} {A : Option Addr} {cls : List (List Int)} (h : ClsAt w A cls) (k : Nat) : ClsAt w A (cls.take k) := ⟨fun j hj => by
  have hj2 : j < cls.length := by rw [List.length_take] at hj; omega
  obtain ⟨b, off, B, c, e, h1, h2⟩ := h.at_ j hj2
  exact ⟨b, off, B, c, e, by rw [List.getElem_take]; exact h1, by rw [List.getElem_take]; exact h2⟩⟩
theorem ClsAt.from {w : World} {A : Option Addr} {cls : List (List Int)} {cap : Nat} (h : ClsAt w A cls) (k : Nat) (hc : cls.length ≤ cap) : ClsAt w (cutA A cap k 1) (cls.drop k) := ⟨fun j hj => by
  rw [List.length_drop] at hj
  obtain ⟨b, off, B, c, e, h1, h2⟩ := h.at_ (k + j) (by omega)
  subst e
  refine ⟨b, off + k, B, c, ?_, ?_, ?_⟩
  · unfold cutA
    rw [if_neg (by omega), Option.map_some, add_none, Nat.mul_one]
  · rw [List.getElem_drop, Nat.add_assoc]; exact h1
  · rw [List.getElem_drop]; exact h2⟩

/-- A side is asked for. -/
def askB (vars : Int) (xss : List (List Int)) (k : Int) : Bool := goodB vars xss && inB k 0 xss.length

/- left out: the seat has no spec.l29Asked -/

/- left out: the seat has no spec.l29Left -/
end Go.Proofs.YtnfjgebfmnpkbaaGreat

/- Contracts: the variables of both sides, in the reference. -/
namespace Go.Proofs.YtnfjgebfmnpkbaaGreat
open Go.RowKit

/-- The parts of what the reference tells of the sides. -/
def onlyL (L R : List (List Int)) (v : Nat) : Bool := usedB L v && !usedB R v
def bothL (L R : List (List Int)) (v : Nat) : Bool := usedB L v && usedB R v
theorem varF_yes {n : Nat} {p : Nat → Bool} {z : Int} (hz : (n : Int) + 1 = z) (h : p (n + 1) = true) : varF n p ++ [z] = varF (n + 1) p := by
  rw [varF_snoc, if_pos h, ← hz]; rfl
theorem varF_no {n : Nat} {p : Nat → Bool} (h : p (n + 1) = false) : varF n p = varF (n + 1) p := by
  rw [varF_snoc, h]; simp
/-- Three rows of numbers. -/
def Ints3 (w : World) (a b c : List Int) (e : Ending) (w' : World) : Prop :=
  ∃ D dc E ec G gc, e = .returned (.tuple #[.slice D a.length dc, .slice E b.length ec, .slice G c.length gc]) ∧ Sp w w' [Own 3 1 (.slice D a.length dc) a.length (a.map (.int .i64)), Own 3 1 (.slice E b.length ec) b.length (b.map (.int .i64)), Own 3 1 (.slice G c.length gc) c.length (c.map (.int .i64))]

/- left out: the seat has no spec.l29Sides -/

end Go.Proofs.YtnfjgebfmnpkbaaGreat

/- Contract: the sides of a Cnf, in the reference. -/
namespace Go.Proofs.YtnfjgebfmnpkbaaGreat
open Go.RowKit

/-- Three rows of numbers, and whether they are told. -/
def Ints4 (w : World) (ok : Bool) (a b c : List Int) (e : Ending) (w' : World) : Prop :=
  ∃ D dc E ec G gc, e = .returned (.tuple #[.slice D a.length dc, .slice E b.length ec, .slice G c.length gc, .bool ok]) ∧ IntsAt w' D a ∧ IntsAt w' E b ∧ IntsAt w' G c ∧ Below w.heap.size w w'
/-- What is told of the sides. -/
def sideL (vars : Int) (xss : List (List Int)) (k : Int) (L R : List (List Int)) : List Int := if askB vars xss k then varF vars.toNat (onlyL L R) else []
def sideB (vars : Int) (xss : List (List Int)) (k : Int) (L R : List (List Int)) : List Int := if askB vars xss k then varF vars.toNat (bothL L R) else []
theorem varF_ok {n : Nat} (hn : n ≤ 1000) {p : Nat → Bool} : ∀ x ∈ varF n p, I64 x := fun x hx => by
  have := varF_mem.1 hx
  unfold I64; omega
theorem Sp.ints {w0 w : World} {ps : List Asn} {i : Nat} {A : Option Addr} {cs : List Int} {c : Nat} {e : TypeId} (h : Sp w0 w ps) (hi : ps[i]? = some (Own e 1 (.slice A cs.length c) cs.length (cs.map (.int .i64)))) (hok : ∀ x ∈ cs, I64 x) : IntsAt w A cs := by
  obtain ⟨A', c', e1, hI⟩ := ints_own (h.own hi) hok
  cases e1
  exact hI
theorem ask_parts {vars : Int} {xss : List (List Int)} {k : Int} (h : askB vars xss k = true) : goodB vars xss = true ∧ 0 ≤ k ∧ k ≤ xss.length := by
  unfold askB at h
  rw [Bool.and_eq_true, inB_true] at h
  exact ⟨h.1, h.2.1, h.2.2⟩

/- left out: the seat has no spec.SidesOf -/
end Go.Proofs.YtnfjgebfmnpkbaaGreat

/- Contracts: a Cnf with its left clauses, in the program. -/
namespace Go.Proofs.YtnfjgebfmnpkbaaGreat
open Go.RowKit

theorem containsIA_any (xs : List Int) (A : Option Addr) (cap : Nat) (x : Int) (w : World) (hx : IntsAt w A xs) (hl : xs.length ≤ 1000000) :
    Calls Tryz.prog 31 #[.slice A xs.length cap, .int .i64 x] w fun e w' => e = .returned (.bool (hasI xs x)) ∧ w' = w := by
  rcases Nat.eq_zero_or_pos xs.length with h0 | h0
  · obtain rfl : xs = [] := List.length_eq_zero_iff.1 h0
    exact Tryz.slices_Contains_int_empty A cap x w
  · obtain ⟨b, off, rfl, -⟩ := hx.at_ 0 h0
    have h := Tryz.slices_Contains_int b off xs.length cap xs x w (Nat.le_refl _) (by omega) fun j hj => by
      obtain ⟨b', off', e, h1⟩ := hx.at_ j hj
      cases e
      rw [h1, List.getD_eq_getElem?_getD, List.getElem?_eq_getElem hj]; rfl
    rw [List.take_length] at h
    exact h

theorem has_varF {n : Nat} {q : Nat → Bool} {x : Int} (h1 : 1 ≤ x) (h2 : x ≤ n) : hasI (varF n q) x = q x.toNat := by
  unfold hasI
  rw [Bool.eq_iff_iff, List.contains_iff_mem, varF_mem]
  exact ⟨fun h => h.2.2, fun h => ⟨h1, h2, h⟩⟩
theorem filt_both (n : Nat) (p q : Nat → Bool) : ((varF n p).filter fun x => !(!hasI (varF n q) x)) = varF n fun v => p v && q v := by
  rw [← varF_sub]
  apply List.filter_congr
  intro x hx
  obtain ⟨h1, h2, -⟩ := varF_mem.1 hx
  rw [Bool.not_not, has_varF h1 h2]
theorem filt_only (n : Nat) (p q : Nat → Bool) : ((varF n p).filter fun x => !hasI (varF n fun v => p v && q v) x) = varF n fun v => p v && !q v := by
  rw [← varF_sub n p (fun v => !q v)]
  apply List.filter_congr
  intro x hx
  obtain ⟨h1, h2, h3⟩ := varF_mem.1 hx
  rw [has_varF h1 h2, h3, Bool.true_and]

/- left out: the seat has no (*loop.example/g01080/impl.split).left -/

/- left out: the seat has no (*loop.example/g01080/impl.split).right -/

/- left out: the seat has no impl.splitOf$1 -/
end Go.Proofs.YtnfjgebfmnpkbaaGreat

/- Contracts: a Cnf with its left clauses, in the program: made. -/
namespace Go.Proofs.YtnfjgebfmnpkbaaGreat
open Go.RowKit

/- left out: the seat has no impl.splitOf -/

/- left out: the seat has no impl.split -/

/- left out: the seat has no impl.splitOf -/
end Go.Proofs.YtnfjgebfmnpkbaaGreat

/- Contract: the sides of a Cnf, in the program. -/
namespace Go.Proofs.YtnfjgebfmnpkbaaGreat
open Go.RowKit

/- left out: the seat has no impl.SidesOf$1$1 -/

/-- A row of numbers of the call's own. -/
def OneI (w : World) (zs : List Int) (e : Ending) (w' : World) : Prop := ∃ D dc, e = .returned (.slice D zs.length dc) ∧ Sp w w' [Own 3 1 (.slice D zs.length dc) zs.length (zs.map (.int .i64))]
theorem cell_below {w w' : World} {a : Addr} {u : Value} (h : w.cell? a = some u) (hb : Below w.heap.size w w') : w'.cell? a = some u := (hb.cell (World.block_lt_of_cell? _ _ h)).trans h

/- left out: the seat has no impl.SidesOf$1 -/

/- left out: the seat has no impl.SidesOf -/
end Go.Proofs.YtnfjgebfmnpkbaaGreat

/- Contracts: counted models and the first one, in the program. -/
namespace Go.Proofs.YtnfjgebfmnpkbaaGreat
open Go.RowKit

/- left out: the seat has no impl.CountCnfModels -/

/- left out: the seat has no impl.CountCnfModels -/

theorem idxP_next {p : Nat → Bool} {k : Nat} (h : p k = false) : idxP p (List.range (k + 1)) = idxP p (List.range k) := by
  unfold idxP
  rw [rany_next, h, Bool.or_false]
  cases ha : (List.range k).any p
  · rfl
  · rw [if_pos rfl, if_pos rfl, List.range_succ, List.findIdx_append, if_pos (List.findIdx_lt_length_of_exists (by simpa using List.any_eq_true.1 ha))]

/- left out: the seat has no impl.FirstModel -/
end Go.Proofs.YtnfjgebfmnpkbaaGreat

/- Contract: a loop over all models with a closure that may turn blocks that it made. -/
namespace Go.Proofs.YtnfjgebfmnpkbaaGreat
open Go.RowKit

set_option maxRecDepth 100000 in
set_option maxHeartbeats 4000000 in
theorem models2_any {g : FuncId} {cb : Array Value} (eg : Enter1 g) (n : Nat) (hn : n ≤ 12) (xss : List (List Int)) (hc : ∀ c ∈ xss, ClS c) (hl : xss.length ≤ 1000000) (A : Option Addr) (cap : Nat) (w : World)
    (P : Nat → World → Prop) (h0 : P 0 w) (hgrow : ∀ k w w', P k w → Below w.heap.size w w' → P k w') (hcls : ∀ k w, P k w → ClsAt w A xss)
    (hnot : ∀ k w, modT xss k = false → P k w → P (k + 1) w)
    (hstep : ∀ k W, w.heap.size < W.heap.size → k < 2 ^ n → modT xss k = true → P k W → Calls Tryz.prog g (#[.int .i64 k] ++ cb) W fun e w' => ∃ (q : Bool) (F : List Nat), e = .returned (.bool q) ∧ w.heap.size ∉ F ∧ Chg F W w' ∧ (if q then P (k + 1) w' else P (2 ^ n) w')) :
    Calls Tryz.prog 64 #[.agg #[.int .i64 n, .slice A xss.length cap], .func (.func g) #[] cb] w fun e w' => e = .returned (.tuple #[]) ∧ P (2 ^ n) w' := by
  unfold Enter1 at eg
  obtain ⟨hsh, hp⟩ := pow12 hn
  generalize 2 ^ n = N at *
  have c0 : (w.alloc (.cells #[.int .i64 n, .slice A xss.length cap] 29)).cell? ⟨w.heap.size, 0, none⟩ = some (.int .i64 n) := cell_of_row _ _ _ _ _ _ (heap_alloc_new w _)
  have c1 : (w.alloc (.cells #[.int .i64 n, .slice A xss.length cap] 29)).cell? ⟨w.heap.size, 1, none⟩ = some (.slice A xss.length cap) := cell_of_row _ _ _ _ _ _ (heap_alloc_new w _)
  have HP0 := Lib.hid (hgrow 0 w _ h0 (bal (bb w) (.cells #[.int .i64 n, .slice A xss.length cap] 29)))
  replace hgrow := Lib.hid hgrow
  replace hcls := Lib.hid hcls
  replace hnot := Lib.hid hnot
  replace hstep := Lib.hid hstep
  have hcc := Lib.hid hc
  clear h0 hc
  go_enter Tryz.func64, Tryz.ntmps64
  go_wp2_with fail
  rw [hsh]
  go_loopw [4, 8] (fun _ i wr => ∃ k : Nat, k ≤ N ∧ i = .int .i64 k ∧ wr.cell? ⟨w.heap.size, 1, none⟩ = some (.slice A xss.length cap) ∧ Hid (P k wr)) (fun _ i _ => N - (intOf i).toNat)
  case atStart => exact ⟨0, Nat.zero_le _, rfl, c1, HP0⟩
  case round =>
    obtain ⟨k, hk, rfl, d1, HP⟩ := hrel
    clear HP0 c0 c1
    by_cases hlt : k < N
    · have hcall := Lib.hid (isModel_any xss hcc.out hl A cap k (Nat.lt_of_lt_of_le hlt (Nat.le_trans hp (by decide))) wr (hcls.out k wr HP.out))
      cases hq : modT xss k
      · rw [hq] at hcall
        go_wp2_with fail
        refine hcall.out.mono ?_
        rintro e w1 ⟨rfl, hb1⟩
        have HP2 := Lib.hid (hnot.out k w1 hq (hgrow.out k wr w1 HP.out hb1))
        have d2 := ((bcell hb1).1 _ _ (World.block_lt_of_cell? _ _ d1)).trans d1
        clear hcall hb1 HP d1
        go_wp2_with fail
        go_roundw
        case rel => exact ⟨k + 1, by omega, by go_num, d2, HP2⟩
        case measure => simp [intOf]; omega
      · rw [hq] at hcall
        go_wp2_with fail
        refine hcall.out.mono ?_
        rintro e w1 ⟨rfl, hb1⟩
        have d2 := ((bcell hb1).1 _ _ (World.block_lt_of_cell? _ _ d1)).trans d1
        have hst := Lib.hid (hstep.out k w1 (World.block_lt_of_cell? _ _ d2) hlt hq (hgrow.out k wr w1 HP.out hb1))
        clear hcall hb1 HP d1
        go_wp2_with fail
        refine hst.out.mono ?_
        rintro e w2 ⟨q, F, rfl, hFF, hch, hP2⟩
        have d3 := (World.cell?_of_block (a := ⟨w.heap.size, 1, none⟩) (hch.block _ (World.block_lt_of_cell? _ _ d2) hFF)).trans d2
        cases q
        · replace hP2 := Lib.hid hP2
          clear hst hch hFF d2
          go_wp2_with fail
          have hP3 : P N w2 := hP2.out
          exact bodyPost_ret (v := .tuple #[]) (by simp [results, Tryz.results64, go_sem]) rfl ⟨rfl, hP3⟩
        · have HP2 : Hid (P (k + 1) w2) := hP2
          clear hst hch hFF d2 hP2
          go_wp2_with fail
          go_roundw
          case rel => exact ⟨k + 1, by omega, by go_num, d3, HP2⟩
          case measure => simp [intOf]; omega
    · obtain rfl : k = N := by omega
      go_wp2_with fail
      exact bodyPost_end (v := .tuple #[]) (by simp [results, Tryz.results64, go_sem]) rfl ⟨rfl, HP.out⟩
end Go.Proofs.YtnfjgebfmnpkbaaGreat

/- Contract: the closure that lists models, in the program. -/
namespace Go.Proofs.YtnfjgebfmnpkbaaGreat
open Go.RowKit

/- left out: the seat has no impl.AllModels$1 -/
end Go.Proofs.YtnfjgebfmnpkbaaGreat

/- Contract: all models listed, in the program. -/
namespace Go.Proofs.YtnfjgebfmnpkbaaGreat
open Go.RowKit

theorem cntP_mono {p : Nat → Bool} {k : Nat} : ∀ d, cntP p k ≤ cntP p (k + d)
  | 0 => Nat.le_refl _
  | d + 1 => by
    have := cntP_mono (p := p) (k := k) d
    cases h : p (k + d)
    · rw [show k + (d + 1) = (k + d) + 1 from rfl, cntP_no h]; exact this
    · rw [show k + (d + 1) = (k + d) + 1 from rfl, cntP_yes h]; omega
/-- What is listed before k, at most 301 numbers. -/
def AllP (w : World) (p : Nat → Bool) (N o m fb : Nat) (fcs : Array Value) (k : Nat) (V : World) : Prop :=
  ∃ (ts : List Int) (B : Option Addr) (cc : Nat), (ts.length ≤ 300 → ts = allN p k) ∧ (300 < ts.length → 300 < cntP p N) ∧ (k < N → ts.length ≤ 300) ∧ (∀ g, (Value.slice B ts.length cc).ownBlock = some g → g ≠ m) ∧
    Sp w V [Own 3 1 (.slice B ts.length cc) ts.length (ts.map (.int .i64)), Box o 33 #[.slice B ts.length cc], Box fb 29 fcs]

/- left out: the seat has no impl.AllModels -/
end Go.Proofs.YtnfjgebfmnpkbaaGreat

/- Contract: the core of a Cnf, in the program. -/
namespace Go.Proofs.YtnfjgebfmnpkbaaGreat
open Go.RowKit

theorem own_cap' {w : World} {B : Nat} {e : TypeId} {size n c : Nat} {A : Option Addr} {xs : List Value} (h : w.ownsRow B e size (.slice A n c) n xs) : n ≤ c := by
  obtain ⟨_, ⟨h1, _⟩ | ⟨g, cap, cur, h1, _, _, hn, _⟩⟩ := h
  · cases h1; exact Nat.le_refl _
  · cases h1; exact hn

/- left out: the seat has no impl.CoreOf -/
end Go.Proofs.YtnfjgebfmnpkbaaGreat

/- Contracts: lists of indices and the core of a Cnf, in the reference. -/
namespace Go.Proofs.YtnfjgebfmnpkbaaGreat
open Go.RowKit

theorem ints_src {w : World} {A : Option Addr} {xs : List Int} {n : Nat} (hx : IntsAt w A xs) (hn : xs.length = n) : Src w A n 1 (xs.map (.int .i64)) := by
  rcases Nat.eq_zero_or_pos n with h0 | h0
  · exact .inl ⟨h0, by rw [List.length_eq_zero_iff.1 (hn.trans h0)]; rfl⟩
  · obtain ⟨b, off, rfl, -⟩ := hx.at_ 0 (by omega)
    refine .inr ⟨_, rfl, by simp [hn], fun j u hu => ?_⟩
    rw [List.getElem?_map] at hu
    have hj : j < xs.length := by
      rcases Nat.lt_or_ge j xs.length with h | h
      · exact h
      · rw [List.getElem?_eq_none h] at hu; cases hu
    rw [List.getElem?_eq_getElem hj] at hu
    simp only [Option.map_some, Option.some.injEq] at hu
    rw [add_none, hx.get hj, hu]
theorem ints_one_cell {xs : List Int} : ∀ u ∈ xs.map (Value.int .i64), u.oneCell' = true := fun u hu => by
  obtain ⟨x, -, rfl⟩ := List.mem_map.1 hu
  rfl

/- left out: the seat has no spec.l5Skip -/

/- left out: the seat has no spec.l5Indices -/
end Go.Proofs.YtnfjgebfmnpkbaaGreat
